/- The program's store of what is drawn, walked; conditions: none. -/
import Derived.Test.YtickdehehcmfbaaGreatDoorAmM07
import Derived.Test.YtickdehehcmfbaaGreatDoorAmM06
import Derived.WideKeyArgs
import Derived.ChangeBears2
import Derived.OpenShut
import GoSem.ClaimJoined
import Derived.Test.YtickdehehcmfbaaGreatDoorAmM04
set_option linter.unusedVariables false
set_option linter.unusedSimpArgs false
namespace Go.Proofs.YtickdehehcmfbaaGreatDoor.Am
open Go Go.Proofs
noncomputable section
theorem NQ:∀ {ops:List DZ},(∀o∈ops,o.ok)→∀ {i:Nat}{o:DZ},ops[i]? = some o→((ops.flatMap DZ.cells).drop (i * 12)).take 12=o.cells∧i * 12+12≤(ops.flatMap DZ.cells).length
 | [],_,i,t,h=>by simp at h
 | u::T,hT,i,t,h=>by
  have hl:u.cells.length=12:=by obtain⟨_,_,_,_,_,_,e,_⟩:=L8 u (hT u bm);rw[e];rfl
  have he:(u::T).flatMap DZ.cells=u.cells++T.flatMap DZ.cells:=rfl
  rw[he]
  cases i with
  | zero =>
   simp at h
   subst h
   rw[Nat.zero_mul,bR,cg (by omega),bw (by omega)]
   exact⟨rfl,by simp;omega⟩
  | succ i =>
   obtain⟨h1,h2⟩:=NQ (fun x hx=>hT x (br _ hx)) (i:=i) (o:=t) (by simpa using h)
   rw[show(i+1) * 12=u.cells.length+i * 12 from by omega,List.drop_append,List.drop_of_length_le (show u.cells.length≤u.cells.length+i * 12 by omega),bP,show u.cells.length+i * 12 - u.cells.length=i * 12 from by omega]
   exact⟨h1,by rw[bu];omega⟩
theorem HU{S:List Tm}{u t:Tm}(h:t∈push S u):t∈S∨t=u:=by
 unfold push at h
 split at h
 ·exact .inl h
 ·exact(List.mem_append.1 h).imp id List.mem_singleton.1
structure JL(S:List Tm)(k:Nat):Prop where
 len:S.length≤2 * k
 var:∀i,Tm.var i∈S→-1000≤i∧i≤900
 bnd:∀i,Tm.bnd i∈S→i≤1000
theorem Hw{S:List Tm}{o:DZ}{t:Tm}(h:t∈Hm S o):t∈S∨t=Ae∨t=IK S o:=by
  have hR:∀t∈QL S o,t∈S∨t=Ae:=fun t ht=>by
    have key:∀l,t∈Ct S.length S l→t∈S∨t=Ae:=fun l hl=>by
      rcases E3 (n:=S.length) (S:=S) l with e | e<;>rw[e]at hl
      · exact .inl hl
      · exact HU hl
    unfold QL at ht
    split at ht
    · exact key _ ht
    · split at ht
      · exact key _ ht
      · exact .inl ht
  rcases HU h with h | h
  · exact(hR t h).imp id .inl
  · exact .inr (.inr h)
theorem UI{S:List Tm}{o:DZ}:(Hm S o).length≤S.length+2:=by
  have h1:=En (S:=QL S o) (u:=IK S o)
  have h2:(QL S o).length≤S.length+1:=by
    unfold QL
    split
    · exact Ow
    · split
      · exact Ow
      · omega
  unfold Hm
  omega
theorem JL.step    {S : List Tm} {k : Nat} (h : JL    S k) {o : DZ}  (ho : o.ok) : JL    (Hm  S o) (k + 1) where
  len:=by have:=h.len;have:=UI (S:=S) (o:=o);omega
  var:=fun i hi=>by
    rcases Hw hi with hi | hi | hi
    · exact h.var i hi
    · cases hi
    · unfold IK at hi
      split at hi
      · injection hi with hi;rw[hi];exact ho.2.2
      · split at hi
        · cases hi
        · split at hi
          · cases hi
          · split at hi<;>cases hi
  bnd:=fun i hi=>by
    rcases Hw hi with hi | hi | hi
    · exact h.bnd i hi
    · cases hi
    · unfold IK at hi
      split at hi
      · cases hi
      · split at hi
        · injection hi with hi;have:=ho.2.2;omega
        · split at hi
          · cases hi
          · split at hi<;>cases hi
def Cr(ops:List DZ):List Tm:=ops.foldl Hm []
theorem Fg(ops:List DZ)(o:DZ):Cr (ops++[o])=Hm (Cr ops) o:=by
 unfold Cr
 rw[List.foldl_append];rfl
set_option maxRecDepth 20000 in
theorem Lt{E:Bl}(hE:Ai E){s:AD}{p:Nat}{ops:List DZ}(hops:∀o∈ops,o.ok)(hl40:ops.length≤40){vo:AV}{OB:List Nat}(hb:D6 46 12 s vo ops.length (ops.flatMap DZ.cells) OB)(a0 a1:AV){Q:Au→Prop}{marks:List Nat}
  (hend:∀ (y5:AV) s' S' O',S'=Cr ops→AQ s' p S' O'→By s' O'→JL S' 40→BD s.next s s'→(∀j∈O',s.next≤j)→AT 0 Q ⟨.exit 0,[a0,a1,vo,.ptr (some (p,0)),iv (ops.length:Int),y5],marks,s'⟩):
  ∀ (d k:Nat) s1 S O (a5:AV),d+k=ops.length→S=Cr (ops.take k)→AQ s1 p S O→By s1 O→JL S k→BD s.next s s1→(∀j∈O,s.next≤j) →
   WC E none (AU.loop SI) (AT 0 Q) [a0,a1,vo,.ptr (some (p,0)),iv (k:Int),a5] marks s1:=by
 intro d
 induction d with
 | zero =>
  intro k s1 S O a5 hd hdn h hg hD ho hO
  have hk:k=ops.length:=by omega
  subst hk
  obtain⟨a,c,rfl,_⟩:=hb.slice
  refine WC.loop' ?_
  have hlt:¬ ((ops.length:Int)<(ops.length:Int)):=by omega
  simp only[SI,X7,Qa,Qb,Qc,Qd,Qe,Qf,Qg,Qh,Qi,Qj,Qk,Ql,Qm,Qn,true_and,and_true,Qo,Qp,Qq,Qr,Qs,Qt,Qu,Qv,Qw,Qx,Qy,Qz,Ra,Rb,Rc,Rd,Re,Rf,Rg,Rh,Ri,Rj,Rk,Rl,Rm,Ya,Yb,Yc,Rn,Ro,Xv,Yd,Ye,Rq,Rs,Rt,Ru,Rw,Rx,Ry,AZ Tryz.underlying36,Rq,hlt,decide_false]
  rw[bw (bM _)]at hdn
  exact hend _ s1 S O hdn h hg ⟨by have:=hD.len;omega,hD.var,hD.bnd⟩ ho hO
 | succ d ih =>
  intro k s1 S O a5 hd hdn h hg hD ho hO
  have hkl:k<ops.length:=by omega
  obtain⟨o,hko⟩:∃o,ops[k]? = some o:=⟨_,bc hkl⟩
  have hok:=hops o (bn hko)
  have hlt:(k:Int)<(ops.length:Int):=by omega
  have hadd:i64 ((k:Int)+1):=by unfold i64;omega
  obtain⟨hat,hle⟩:=NQ hops hko
  have hblt:=hb.lt
  rcases hb.row with⟨_,hz,_⟩ | ⟨j,r,rfl,hjO,hjr,hh⟩
  ·omega
  have hln:A1 (s1.heap.get j) (k * 12) 12=some o.cells:=by rw[ho.2 j (hblt j hjO),hjr,Df hh hle,hat]
  have hlen:=hD.len
  have hdo:=fun K hK=>XW (K:=K) hE h hg (by omega) hok hK
  refine WC.loop' ?_
  obtain⟨W,hW⟩:∃W,W=AU.loop SI:=⟨_,rfl⟩
  rw[← hW]
  simp only[SI,X7,Zu,Qa,Qb,Qc,Qd,Qe,Qf,Qg,Qh,Qi,Qj,Qk,Ql,Qm,Qn,true_and,and_true,Qo,Qp,Qq,Qr,Qs,Qt,Qu,Qv,Qw,Qx,Qy,Qz,Ra,Rb,Rc,Rd,Re,Rf,Rg,Rh,Ri,Rj,Rk,Rl,Rm,Ya,Yb,Yc,Rn,Ro,Xv,Yd,Ye,Rq,Rs,Rt,Ru,Rw,Rx,Ry,AZ Tryz.underlying36,Rq,hlt,decide_true,Ac Tryz.underlying36 ER hkl,Ff,ER,hln,Rz,Wa,Wb,Wc,Wd,We,Wf,Wg,Wh,Wi,Wj,Wl,Wm,Wn,Wp,Wq,Wr,Ws,Wt,Wu,Wv,Ww,Wx,Wy,Wz,Xa,Xb,Xc,Xd,Xe,Xf,Xg,Xh,Xi,Xj,Xk,Xl,Xm,Xn,Xo,Xp,Xq,Xr,bO,bT,bS,bP,bU,bV,List.getElem?_cons_zero,List.getElem?_cons_succ,bR,bX,bW,bY,bN,Nat.reduceAdd,Nat.reduceLT,Nat.reduceLeDiff,decide_true,decide_false,Bool.true_and,Bool.and_true,bZ,bM,Option.some.injEq,Xs,Xt,Xu,Xv]
  refine hdo _ fun s2 O2 g1 g2 g3 g4=>?_
  have hso:=ho.1
  have:=ih (k+1) s2 _ O2 (.bool true) (by omega) (by rw[cG hkl,Fg,← hdn,show ops[k]=o from by rw[bc hkl]at hko;injection hko]) g1 g2 (hD.step hok) ⟨bo ho.1 g3.1,fun x hx=>?_⟩ (fun x hx=>(g4 x hx).elim (hO x) (fun hl=>by omega))
  ·rw[← hW,show((k+1:Nat):Int)=(k:Int)+1 from by omega]at this
   simp only[Qa,Qb,Qc,Qd,Qe,Qf,Qg,Qh,Qi,Qj,Qk,Ql,Qm,Qn,true_and,and_true,Qo,Qp,Qq,Qr,Qs,Qt,Qu,Qv,Qw,Qx,Qy,Qz,Ra,Rb,Rc,Rd,Re,Rf,Rg,Rh,Ri,Rj,Rk,Rl,Rm,Ya,Yb,Yc,Rn,Ro,Xv,Yd,Ye,Rq,Rs,Rt,Ru,Rw,Rx,Ry,Zv,A9 _ _ _ _ hadd]
   exact this
  ·rw[g3.2 x (by omega) (fun hm=>by have:=hO x hm;omega),ho.2 x hx]
set_option maxRecDepth 20000 in
theorem Pe{E:Bl}(hE:Ai E){s:AD}(hg:CV s 1 A7=true)(h1:1<s.next){v:AV}{l:List Hk}(hv:Cm s v l)(hu:∀m∈l,Hk.ok m){K:AV→AD→Prop}
  (hK:∀ (p:Nat) s' S O,S=Cr (BK (l.take 40)).2→AQ s' p S O→By s' O→JL S 40→BD s.next s s'→(∀j∈O,s.next≤j)→K (.ptr (some (p,0))) s'):
  WF E 8 [v] K s:=by
 refine hE.go Zz (by decide) rfl ?_
 simp only[c8,Zq,Zr,Qa,Qb,Qc,Qd,Qe,Qf,Qg,Qh,Qi,Qj,Qk,Ql,Qm,Qn,true_and,and_true,Qo,Qp,Qq,Qr,Qs,Qt,Qu,Qv,Qw,Qx,Qy,Qz,Ra,Rb,Rc,Rd,Re,Rf,Rg,Rh,Ri,Rj,Rk,Rl,Rm,Ya,Yb,Yc,Rn,Ro,Xv,Yd,Ye,Rq,Rs,Rt,Ru,Rw,Rx,Ry]
 refine MH hE hg h1 hv hu fun q vo s1 ops OB e0 e1 e2 e3 e4 e5=>?_
 simp only[Qa,Qb,Qc,Qd,Qe,Qf,Qg,Qh,Qi,Qj,Qk,Ql,Qm,Qn,true_and,and_true,Qo,Qp,Qq,Qr,Qs,Qt,Qu,Qv,Qw,Qx,Qy,Qz,Ra,Rb,Rc,Rd,Re,Rf,Rg,Rh,Ri,Rj,Rk,Rl,Rm,Ya,Yb,Yc,Rn,Ro,Xv,Yd,Ye,Rq,Rs,Rt,Ru,Rw,Rx,Ry,Zs,Zt,Rz,Wa,Wb,Wc,Wd,We,Wf,Wg,Wh,Wi,Wj,Wl,Wm,Wn,Wp,Wq,Wr,Ws,Wt,Wu,Wv,Ww,Wx,Wy,Wz,Xa,Xb,Xc,Xd,Xe,Xf,Xg,Xh,Xi,Xj,Xk,Xl,Xm,Xn,Xo,Xp,Xq,Xr,bO,bT,bS,bP,bU,bV,List.getElem?_cons_zero,List.getElem?_cons_succ,bR,bX,bW,bY,bN,Nat.reduceAdd,Nat.reduceLT,Nat.reduceLeDiff,decide_true,decide_false,Bool.true_and,Bool.and_true,bZ,bM,Option.some.injEq,Xs,Xt,Xu,Xv]
 refine Yy hE (by rw[BN (e3.2 1 h1)];exact hg) (bi h1 e3.1) fun p s2 O g1 g2 g3 g4=>?_
 simp only[Qa,Qb,Qc,Qd,Qe,Qf,Qg,Qh,Qi,Qj,Qk,Ql,Qm,Qn,true_and,and_true,Qo,Qp,Qq,Qr,Qs,Qt,Qu,Qv,Qw,Qx,Qy,Qz,Ra,Rb,Rc,Rd,Re,Rf,Rg,Rh,Ri,Rj,Rk,Rl,Rm,Ya,Yb,Yc,Rn,Ro,Xv,Yd,Ye,Rq,Rs,Rt,Ru,Rw,Rx,Ry,Rz,Wa,Wb,Wc,Wd,We,Wf,Wg,Wh,Wi,Wj,Wl,Wm,Wn,Wp,Wq,Wr,Ws,Wt,Wu,Wv,Ww,Wx,Wy,Wz,Xa,Xb,Xc,Xd,Xe,Xf,Xg,Xh,Xi,Xj,Xk,Xl,Xm,Xn,Xo,Xp,Xq,Xr,bO,bT,bS,bP,bU,bV,List.getElem?_cons_zero,List.getElem?_cons_succ,bR,bX,bW,bY,bN,Nat.reduceAdd,Nat.reduceLT,Nat.reduceLeDiff,decide_true,decide_false,Bool.true_and,Bool.and_true,bZ,bM,Option.some.injEq,Xs,Xt,Xu,Xv]
 refine Lt hE (s:=s1) e1 e2 e4 _ _ (fun y5 s' S' O' k0 k1 k2 k3 k4 k5=>?_) ops.length 0 s2 [] O _ (by omega) rfl g2 g3 ⟨bl _,fun i hi=>absurd hi (by simp),fun i hi=>absurd hi (by simp)⟩ g1 g4
 simp only[Qa,Qb,Qc,Qd,Qe,Qf,Qg,Qh,Qi,Qj,Qk,Ql,Qm,Qn,true_and,and_true,Qo,Qp,Qq,Qr,Qs,Qt,Qu,Qv,Qw,Qx,Qy,Qz,Ra,Rb,Rc,Rd,Re,Rf,Rg,Rh,Ri,Rj,Rk,Rl,Rm,Ya,Yb,Yc,Rn,Ro,Xv,Yd,Ye,Rq,Rs,Rt,Ru,Rw,Rx,Ry]
 rw[if_pos trivial]
 simp only[Zw,Qa,Qb,Qc,Qd,Qe,Qf,Qg,Qh,Qi,Qj,Qk,Ql,Qm,Qn,true_and,and_true,Qo,Qp,Qq,Qr,Qs,Qt,Qu,Qv,Qw,Qx,Qy,Qz,Ra,Rb,Rc,Rd,Re,Rf,Rg,Rh,Ri,Rj,Rk,Rl,Rm,Ya,Yb,Yc,Rn,Ro,Xv,Yd,Ye,Rq,Rs,Rt,Ru,Rw,Rx,Ry]
 exact hK p s' S' O' (by rw[k0,e0]) k1 k2 k3 (e3.trans (k4.mono e3.1)) fun j hj=>bo e3.1 (k5 j hj)
theorem JA.kidS{S:List Tm}(h:JA S):∀t∈S,∀k∈t.kids,k∈S:=fun t ht k hk=>by
 obtain⟨j,_,hj⟩:=h.cl _ _ (DP ht) k hk
 exact bn hj
def QP(S:List Tm)(x:Int)(u:Tm):Prop:=FM S.length x=true∧Ak S x=u
theorem E9{n:Nat}{x:Int}:FM n x=true↔0≤x∧x<(n:Int):=by
 unfold FM;simp
theorem MW{S:List Tm}{k:Nat}{u:Tm}(h:S[k]? = some u):QP S (k:Int) u:=by
 have hl:k<S.length:=by
  rcases be k S.length with h' | h'
  ·exact h'
  ·rw[bh h']at h;cases h
 have hr:FM S.length (k:Int)=true:=E9.2 (by omega)
 refine⟨hr,?_⟩
 unfold Ak
 rw[if_pos hr,ce,Int.toNat_natCast,h];rfl
theorem QP.at{S:List Tm}{x:Int}{u:Tm}(h:QP S x u):∃k:Nat,x=(k:Int)∧S[k]? = some u:=by
 obtain⟨h1,h2⟩:=h
 obtain⟨h3,h4⟩:=E9.1 h1
 refine⟨x.toNat,by omega,?_⟩
 unfold Ak at h2
 rw[if_pos h1,ce]at h2
 have hl:x.toNat<S.length:=by omega
 rw[bc hl]at h2 ⊢
 rw[← h2];rfl
theorem QP.ext{S S':List Tm}{x:Int}{u:Tm}(h:QP S x u)(k:∃y,S'=S++y):QP S' x u:=by
 obtain⟨n,rfl,hn⟩:=h.at
 obtain⟨y,rfl⟩:=k
 refine MW ?_
 have hl:n<S.length:=by
  rcases be n S.length with h' | h'
  ·exact h'
  ·rw[bh h']at hn;cases hn
 rw[bt hl];exact hn
theorem QP.ix{S:List Tm}{x:Int}{u:Tm}(h:QP S x u)(hn:S.Nodup):(ix S u:Int)=x:=by
 have:=(Gc h.1).2 hn
 rw[h.2]at this;exact this
structure TW(S0:List Tm)(p:Nat)(s:AD)(S:List Tm)(O:List Nat)(m:Nat):Prop where
 st:AQ s p S O
 gl:By s O
 pre:∃x,S=S0++x
 len:S.length≤200+82 * m
section
variable{E:Bl}(hE:Ai E){S0:List Tm}{p:Nat}{s:AD}{S:List Tm}{O:List Nat}{m:Nat}(h:TW S0 p s S O m)(hm:m≤900)
include h
include hE
include hm
variable{L:List Tm}(hLl:L.length≤81)(hLk:∀t∈L,∀k∈t.kids,k∈L){ti:Int}{u:Tm}(hn:QP S ti u)(hu:u∈L)
include hLl hLk hn hu
end
end
end Go.Proofs.YtickdehehcmfbaaGreatDoor.Am
set_option linter.unusedVariables false
set_option linter.unusedSimpArgs false
set_option maxRecDepth 16000
namespace Go.Proofs.YtickdehehcmfbaaGreatDoor.Am
open Go Go.Proofs
noncomputable section
theorem PV:Ai Z3:=by
 refine⟨rfl,fun f xs s hf=>?_,fun f xs s p h=>h⟩
 show Fm f xs s=none
 have hf':∀k∈[44,30,45,127,109,7,55,37,46],Nat.beq f k=false:=fun k hk=>AI.beq_no fun e=>hf (e▸hk)
 have h1:([44,30,45,127,109,7]:List FuncId).any (Nat.beq f)=false:=by
  rw[List.any_eq_false]
  intro k hk
  rw[hf' k (b5 (bs:=[55,37,46]) hk)]
  exact Bool.false_ne_true
 have h2:B5 f xs s=none:=by
  unfold B5 Kq
  rw[h1];rfl
 have h3:Pk f xs s=none:=by
  unfold Pk
  rw[hf' 55 (by simp),hf' 37 (by simp),hf' 46 (by simp)];rfl
 unfold Fm
 rw[h2,h3]
theorem PH{W:World}{ρ:Aq}{s:AD}{f:FuncId}{xs:List AV}{args:Array Value}(hd:Fd Tryz.prog W ρ s)(ha:AJ ρ xs args.toList)(h:WF Z3 f xs (fun r _=>r=.bool true) s):
  Calls Tryz.prog f args W fun e W'=>e=.returned (.bool true)∧KF W W':=by
 obtain⟨n,p,h1,h2⟩:=h
 have:=((bL Oe (Ij L0) rfl UY n).call ρ s W f xs p.1 p.2 args h1 hd.inv hd.fresh ha).2
 refine callsIn_wide.1 (CallsIn.mono this ?_)
 intro e w' he
 cases e with
 | panicked c=>exact he.elim
 | outgrown=>exact he.elim
 | returned v' =>
  obtain⟨ρ',k1,k2,k3⟩:=he
  rw[h2]at k1
  cases k1
  exact⟨rfl,UP k3 hd.notOwned⟩
theorem reads_again{H:Type}{enc:TypeId×Value→H}{P:Program}{t:TypeId}(hl:laidOutB P=true)(hr:P.readableRec t=true)(hrow:t<P.types.size){W W':World}{v:Value}{d:DataW H}{ps:List MemPlace}{sp:Nat→Bool}
  (h:DataW.Trod enc P W 0 (fun _=>true) true t v d ps) (hk:KF W W') (hlt:∀x∈ps,x.block<W.heap.size) (hs:∀x∈ps,sp x.block=true):DataW.Trod enc P W' 0 sp true t v d ps:=
 WideElems.Trod_stays hl hr hrow h (fun x hx=>by
  have:=hlt x hx
  cases x with
  | cell b o=>exact World.cell?_of_block (w:=W) (hk.heap b this)
  | map b=>exact hk.heap b this) hs
theorem Tx{t e:TypeId}(ht:Tryz.prog.underlying t=some (.slice e)){W:World}{base:Nat}{v:Value}(h:Value.okWide Tryz.prog W .any base t v){ρ:Aq}{a:AV}(hr:AJ ρ [a] v.cells.toList):AL ρ a v:=by
 have hv:v.cells.toList=[v]:=by
  cases v with
  | agg cs=>simp[Value.okWide,ht,Cell.okWide,Cell.ok]at h
  | _=>rfl
 rw[hv]at hr
 cases hr with
 | cons h _=>exact h
theorem TY{t e:TypeId}(ht:Tryz.prog.underlying t=some (.slice e)){W:World}{base:Nat}{v:Value}(h:Value.okWide Tryz.prog W .any base t v)(a:Addr)(ha:v.cells.toList=[.slice (some a) 0 0]):0<W.heap.size:=by
 have hv:v=.slice (some a) 0 0:=by
  cases v with
  | agg cs =>
   simp[Value.okWide,ht,Cell.okWide,Cell.ok]at h
  | _ =>
   simp[Value.cells]at ha
   try (obtain⟨e1,e2,e3⟩:=ha;rw[e1,e2,e3])
 subst hv
 simp only[Value.okWide,ht,Cell.okWide,Cell.ok]at h
 obtain⟨_,_,_,_,row,cells,hs,_⟩:=h
 unfold World.shape? at hs
 cases hb:W.heap[a.block]? with
 | none=>rw[hb]at hs;cases hs
 | some o =>
  rcases be a.block W.heap.size with h' | h'
  ·omega
  ·rw[Array.getElem?_eq_none h']at hb;cases hb
def Z9:DataW Unit:=.agg (A7.map fun v=>match v with | .int k n=>.lit (.int k n) | _=>.nil)
theorem F0{P:Program}{w:World}{x:String×DataW Unit}:∀ {laid:List (String×DataW Unit)}{ps:List MemPlace},DataW.LaidVars P w laid ps→x∈laid →
  ∃g t cs fuel p,P.globalNamed x.1=some g∧(P.globals[g]?).map (·.type)=some t∧w.var? P x.1=some cs∧DataW.trod (fun _=>()) P w 0 (fun _=>true) false fuel t cs.toList=some (x.2,p)
 | [],_,_,hx=>by cases hx
 | (n,d)::r,ps,h,hx=>by
  obtain⟨g,t,cs,fuel,p,q,h1,h2,h3,h4,h5,_⟩:=h
  rcases bv.1 hx with rfl | hx
  ·exact⟨g,t,cs,fuel,p,h1,h2,h3,h4⟩
  ·exact F0 h5 hx
theorem Zx:Tryz.prog.cellsOf 143=1:=by kernel_rfl
theorem pow_cells {W : World} {laid : List (String × DataW Unit)} (h : laidMet Tryz.prog laid W) (hm : ("internal/strconv.uint64pow10", Z9)   ∈ laid) :
    1<W.heap.size∧∀k v,A7[k]? = some v→∃v',W.cell? ⟨1,k,none⟩=some v'∧AL Pv v v':=by
  obtain⟨ps,h,_⟩:=h
  obtain⟨g,t,cs,fuel,p,hg,ht,hv,hd⟩:=F0 h hm
  obtain rfl := Option.some.inj ((show Tryz.prog.globalNamed "internal/strconv.uint64pow10" = some 1 by kernel_rfl).symm.trans hg)
  obtain rfl:=Option.some.inj ((show(Tryz.prog.globals[1]?).map (·.type)=some 169 by kernel_rfl).symm.trans ht)
  obtain⟨xs,m,_,ex,_,hl,hel⟩:=DataW.trod_array Tryz.underlying169 hd
  have e3:Z9=.agg (xs.map (·.1)):=(Prod.mk.inj ex).1
  have e3:=DataW.agg.inj e3
  have hlen:A7.length=20:=rfl
  have hcell:∀k v,A7[k]? = some v→∃v',W.cell? ⟨1,k,none⟩=some v'∧AL Pv v v':=by
    intro k v hk
    have hk20:k<20:=by
      rcases be k 20 with h' | h'
      · exact h'
      · rw[bh (by omega)]at hk;cases hk
    have hE:=hel k hk20
    rw[Zx,b0,bc (by omega)]at hE
    obtain⟨z,e1,e2,_⟩:=DataW.trod_int Tryz.underlying143 hE
    have hvz:v=.int .u64 z:=by
      have e4:(A7.map fun v=>match v with | .int k n=>(DataW.lit (.int k n):DataW Unit) | _=>.nil)[k]? = (xs.map (·.1))[k]? := by rw[e3]
      rw[b3,hk,b3,bc (by omega:k<xs.length),e2]at e4
      have hall:∀v∈A7,∃n,v=.int .u64 n:=by
        intro v hv
        simp only[A7,bv,b4,or_false]at hv
        rcases hv with rfl | rfl | rfl | rfl | rfl | rfl | rfl | rfl | rfl | rfl | rfl | rfl | rfl | rfl | rfl | rfl | rfl | rfl | rfl | rfl<;>exact⟨_,rfl⟩
      obtain⟨n,rfl⟩:=hall v (bn hk)
      simp only[cC,Option.some.injEq,DataW.lit.injEq,Lit.int.injEq,true_and]at e4
      rw[e4]
    subst hvz
    refine⟨.int .u64 z,?_,.int _ _⟩
    rw[World.var?_cell hg hv k]
    have h0:((cs.toList.drop k).take 1)[0]? = some (.int .u64 z):=by rw[e1];rfl
    have:cs.toList[k]? = some (.int .u64 z):=by simpa using h0
    simpa using this
  refine⟨?_,hcell⟩
  obtain⟨v',h1,_⟩:=hcell 0 (.int .u64 1) rfl
  exact OF h1
section
variable{H:Type}{enc:TypeId×Value→H}{w:World}{held:Bool}
theorem O0{n:Int}(h:(Lit.int .u8 n).wf=true):0≤n∧n<256:=by
 simp only[Lit.wf,Bool.and_eq_true,decide_eq_true_eq]at h
 have h1:0≤n:=h.1
 have h2:n≤255:=h.2
 omega
theorem aQ:Tryz.prog.cellsOf 5=1:=by kernel_rfl
theorem SK:Tryz.prog.cellsOf 82=4:=by kernel_rfl
def Of(_:AD)(us:List AV)(m:Hk):Prop:=us=m.cells∧m.ok
theorem Pq(s s':AD)(us:List AV)(m:Hk)(h:Of s us m)(_:BD s.next s s'):Of s' us m:=h
theorem M2(n:Nat)(cs:List Value)(y:DataW H×List MemPlace)(h:DataW.trod enc Tryz.prog w 0 (fun _=>true) held n 82 cs=some y)(ρ:Aq)(s:AD)(hd:Fd Tryz.prog w ρ s):Nr Tryz.prog w Of cs ρ s:=by
 obtain⟨xs,m,_,rfl,h3,h4,h5⟩:=DataW.trod_struct Tryz.underlying82 h
 rw[SK]at h3
 have h4:xs.length=4:=h4
 match cs,h3 with
 | [c0,c1,c2,c3],_ =>
  have e0:DataW.trod enc Tryz.prog w 0 (fun _=>true) held m 5 (([c0,c1,c2,c3].drop 0).take (Tryz.prog.cellsOf 5))=xs[0]? := h5 0 _ rfl
  have e1:DataW.trod enc Tryz.prog w 0 (fun _=>true) held m 5 (([c0,c1,c2,c3].drop 1).take (Tryz.prog.cellsOf 5))=xs[1]? := h5 1 _ rfl
  have e2:DataW.trod enc Tryz.prog w 0 (fun _=>true) held m 5 (([c0,c1,c2,c3].drop 2).take (Tryz.prog.cellsOf 5))=xs[2]? := h5 2 _ rfl
  have e3:DataW.trod enc Tryz.prog w 0 (fun _=>true) held m 5 (([c0,c1,c2,c3].drop 3).take (Tryz.prog.cellsOf 5))=xs[3]? := h5 3 _ rfl
  rw[aQ]at e0 e1 e2 e3
  rw[bc (show 0<xs.length by omega)]at e0
  rw[bc (show 1<xs.length by omega)]at e1
  rw[bc (show 2<xs.length by omega)]at e2
  rw[bc (show 3<xs.length by omega)]at e3
  obtain⟨a,q0,_,w0⟩:=DataW.trod_int Tryz.underlying5 e0
  obtain⟨b,q1,_,w1⟩:=DataW.trod_int Tryz.underlying5 e1
  obtain⟨c,q2,_,w2⟩:=DataW.trod_int Tryz.underlying5 e2
  obtain⟨d,q3,_,w3⟩:=DataW.trod_int Tryz.underlying5 e3
  injection q0 with q0
  injection q1 with q1
  injection q2 with q2
  injection q3 with q3
  subst q0;subst q1;subst q2;subst q3
  have w0:=O0 w0
  have w1:=O0 w1
  have w2:=O0 w2
  have w3:=O0 w3
  obtain⟨a,rfl⟩:∃k:Nat,a=k:=⟨a.toNat,by omega⟩
  obtain⟨b,rfl⟩:∃k:Nat,b=k:=⟨b.toNat,by omega⟩
  obtain⟨c,rfl⟩:∃k:Nat,c=k:=⟨c.toNat,by omega⟩
  obtain⟨d,rfl⟩:∃k:Nat,d=k:=⟨d.toNat,by omega⟩
  exact⟨ρ,s,[Cb a,Cb b,Cb c,Cb d],(a,b,c,d),hd,Aq.le_refl ρ,BD.refl _ _,.cons (.int _ _) (.cons (.int _ _) (.cons (.int _ _) (.cons (.int _ _) .nil))),rfl,by show a<256;omega,by show b<256;omega,by show c<256;omega,by show d<256;omega⟩
theorem UV{o:Option Ao}:∀ (l:List AV)(off:Nat),(∀j u,l[j]? = some u→Cz o (off+j)=some u)→l≠[]→A1 o off l.length=some l:=by
 intro l off h h0
 obtain⟨r,hr⟩:∃r,TF o=some r:=by
  cases l with
  | nil=>exact absurd rfl h0
  | cons a l =>
   have:=h 0 a rfl
   unfold Cz at this
   cases hr:TF o with
   | none=>rw[hr]at this;cases this
   | some r=>exact⟨r,rfl⟩
 have hg:∀j u,l[j]? = some u→off+j<r.n∧r.c.get (off+j)=some u:=fun j u hj=>by
  have:=h j u hj
  unfold Cz at this
  rw[hr,Option.bind_some]at this
  obtain⟨g1,g2⟩:=AB this
  exact⟨by simpa[bq]using g1,g2⟩
 have ht:∀ (m:List AV) (k:Nat),(∀j u,m[j]? = some u→r.c.get (k+j)=some u)→r.c.take k m.length=some m:=by
  intro m
  induction m with
  | nil=>intro k _;simp[AI.take]
  | cons a m ih =>
   intro k hk
   have h1:=hk 0 a rfl
   rw[cN]at h1
   simp only[bO,AI.take,h1,ih (k+1) fun j u hj=>by rw[show k+1+j=k+(j+1)from by omega];exact hk (j+1) u hj]
 unfold A1
 rw[hr,Option.bind_some,ht l off fun j u hj=>(hg j u hj).2]
 have hl:off+l.length≤r.n:=by
  cases hz:l.getLast? with
  | none=>exact absurd (List.getLast?_eq_none_iff.1 hz) h0
  | some u =>
   have hlen:0<l.length:=List.length_pos_iff.2 h0
   have:=(hg (l.length - 1) l[l.length - 1] (bc (by omega))).1
   omega
 have:Nat.ble (off+l.length) r.n=true:=by rw[bf];exact hl
 rw[this];rfl
theorem NL{s:AD}{us:List AV}{l:List Hk}(h:Nu Of 4 s us l):∃v,us=[v]∧Cm s v l∧∀m∈l,m.ok:=by
  obtain⟨a,cap,rfl,hl,hcap,h2⟩:=h
  refine⟨_,rfl,⟨a,cap,rfl,fun k m hm=>?_⟩,fun m hm=>?_⟩
  · obtain⟨i,o,vs,g1,g2,g3,g4,rfl,g5⟩:=h2 k m hm
    exact⟨i,o,g1,g2,UV m.cells (o+k * 4) (fun j u hj=>by rw[← UU];exact g4 j u hj) (by simp[Hk.cells])⟩
  · obtain ⟨k, hk⟩ := List.mem_iff_getElem?.1 hm
    obtain⟨i,o,vs,g1,g2,g3,g4,rfl,g5⟩:=h2 k m hk
    exact g5
end
theorem Uc:CV (QD 1 A7) 1 A7=true:=by kernel_rfl
theorem PS{W:World}(hp:1<W.heap.size∧∀k v,A7[k]? = some v→∃v',W.cell? ⟨1,k,none⟩=some v'∧AL Pv v v'):∃ρ,Fd Tryz.prog W ρ (QD 1 A7):=Z1 hp.1 hp.2
section
variable{H:Type}{enc:TypeId×Value→H}{W:World}{base:Nat}
end
end
end Go.Proofs.YtickdehehcmfbaaGreatDoor.Am
set_option linter.unusedVariables false
set_option linter.unusedSimpArgs false
namespace Go.Proofs.YtickdehehcmfbaaGreatDoor.Am
open Go Go.Proofs
noncomputable section
def GI(i:Int):List Nat:=match CC CE 45 [iv i]with
 | some (.str l)=>l
 | _=>[]
def OX(k:Nat):Bool:=match CC CE 45 [iv ((k:Int) - 3)]with
 | some (.str l)=>Nat.ble l.length 3
 | _=>false
theorem So:((List.range 14).all OX)=true:=by kernel_rfl
theorem Dx{i:Int}(h:-3≤i∧i≤10):CC CE 45 [iv i]=some (.str (GI i))∧(GI i).length≤3:=by
  have h1:=List.all_eq_true.1 So (i+3).toNat (List.mem_range.2 (by omega))
  unfold OX at h1
  rw[show((i+3).toNat:Int) - 3=i from by omega]at h1
  unfold GI
  split at h1
  · rename_i l hl
    rw[hl]
    exact⟨rfl,by simpa[bf]using h1⟩
  · cases h1
theorem Ji{E:Bl}(hE:Ai E){s:AD}(hg:CV s 1 A7=true){i:Int}(h:-3≤i∧i≤10){K:AV→AD→Prop}(hK:K (.str (GI i)) s):WF E 45 [iv i] K s:=by
 refine WF.native (hE.tab _ _ _ (.str (GI i),s) ?_) hK
 have h2:B5 45 [iv i] s=(CC CE 45 [iv i]).bind fun r=>AF (CV s 1 A7) (some (r,s)):=rfl
 unfold Fm
 rw[h2,(Dx h).1,Option.bind_some,hg]
 rfl
theorem Jr(xs:List AV)(s:AD):Fm 46 xs s=Gy s xs:=by
 have h2:B5 46 xs s=none:=rfl
 unfold Fm
 rw[h2];rfl
def Bn:Tm→List Nat
 | .var i=>120::GI i
 | .bnd i=>98::GI i
 | .con n=>(Tm.con n).ktext
 | .sel d k=>[40,103,101,116]++(32::Bn d)++(32::Bn k)++[41]
 | .upd d k a=>[40,115,101,116]++(32::Bn d)++(32::Bn k)++(32::Bn a)++[41]
def CT(t:Tm):List Nat:=if 4096<t.sz then []else Bn t
def Told(S:List Tm):Prop:=(∀i,Tm.var i∈S→-3≤i∧i≤10)∧∀i,Tm.bnd i∈S→-3≤i∧i≤10
theorem PP:((List.range 13).all fun n=>Nat.ble (Tm.con n).ktext.length 20)=true:=by kernel_rfl
theorem EM{S:List Tm}(hS:JA S)(hT:Told S):∀t,t∈S→t.sz≤4096→(Bn t).length≤30 * t.sz
 | .var i,ht,_=>by have:=(Dx (hT.1 i ht)).2;simp only[Bn,Tm.sz,bO];omega
 | .bnd i,ht,_=>by have:=(Dx (hT.2 i ht)).2;simp only[Bn,Tm.sz,bO];omega
 | .con n,ht,_=>by
  have hn:n<13:=hS.ok _ ht
  have:=List.all_eq_true.1 PP n (List.mem_range.2 hn)
  simp only[Bn,Tm.sz]
  have h2:(Tm.con n).ktext.length≤20:=by simpa[bf]using this
  omega
 | .sel d k,ht,h=>by
  simp only[Tm.sz]at h ⊢
  have h1:=EM hS hT d (hS.kidS _ ht d (by simp[Tm.kids])) (by omega)
  have h2:=EM hS hT k (hS.kidS _ ht k (by simp[Tm.kids])) (by omega)
  simp only[Bn,bu,bO,bT]
  omega
 | .upd d k a,ht,h=>by
  simp only[Tm.sz]at h ⊢
  have h1:=EM hS hT d (hS.kidS _ ht d (by simp[Tm.kids])) (by omega)
  have h2:=EM hS hT k (hS.kidS _ ht k (by simp[Tm.kids])) (by omega)
  have h3:=EM hS hT a (hS.kidS _ ht a (by simp[Tm.kids])) (by omega)
  simp only[Bn,bu,bO,bT]
  omega
theorem Ss{t k:Tm}(h:k∈t.kids)(hs:t.sz≤4096):k.sz≤4096:=by
 cases t<;>simp only[Tm.kids,bv,b4,or_false,false_or]at h
 ·rcases h with rfl | rfl<;>simp only[Tm.sz]at hs<;>omega
 ·rcases h with rfl | rfl | rfl<;>simp only[Tm.sz]at hs<;>omega
theorem Ho{x y:List Nat}(h:x.length+y.length≤1000000000):AO Tryz.prog .add 9 (.str x) (.str y)=some (.str (x++y)):=by
 show AF (Nat.ble (x.length+y.length) 1152921504606846976) _=_
 rw[CM (by omega)];rfl
def Bc(l:List (List Nat)):List AV:=l.map AV.str
theorem Tr:Bv Tryz.prog 9 1=true:=by kernel_rfl
theorem O8:BH Tryz.prog 39=true:=by kernel_rfl
theorem Ez(x:List Nat):Aa Tryz.prog 39 1 (zipIdx [0] [.str x])=some (R 9 1 false [.str x]):=by kernel_rfl
theorem On{s:AD}{j:Nat}{x:List Nat}(h:s.heap.get j=some (R 9 1 false [.str x])):B3 Tryz.prog s 9 1 (.slice (some (j,0)) 1 (some 1))=some (1,[.str x]):=by
 show(I2 _ j 0 1 1).bind _=_
 rw[FG (l:=[.str x]) (by rw[Co,h];exact Wj (bM _))]
 rfl
theorem QG{s:AD}{i j:Nat}{x y:List Nat}(hi:s.heap.get i=some (R 9 1 false [.str x]))(hj:s.heap.get j=some (R 9 1 false [.str y])):
  Ay Tryz.prog s [39,39] [.slice (some (i,0)) 1 (some 1),.slice (some (j,0)) 1 (some 1)]=some (.slice (some (s.next,0)) 2 none,newObj s (R 9 1 true [.str x,.str y])):=by
 have hsrc:=On hj
 have hall:AW [AV.str y]=true:=rfl
 have h1:Nat.ble ((1+1) * 16) 1099511627776=true:=rfl
 have h2:Nat.ble (1+1) 1099511627776=true:=rfl
 have h3:Nat.ble (1+1) 1=false:=rfl
 have h4:BG s i 0 (1 * 1)=some [.str x]:=by rw[Co,hi];rfl
 simp only[Ay,Tryz.underlying39,aY,ac,Option.bind_some,hsrc,O8,hall,h1,h2,appTo,F3,h3,h4,cond_false,Bp,Tr,Xa,Bool.and_self]
 rfl
theorem Td{s:AD}{i:Nat}{l:List (List Nat)}(hi:s.heap.get i=some (R 9 1 true (Bc l)))(hl:i<s.next):D6 9 1 s (.slice (some (i,0)) l.length none) l.length (Bc l) [i]:=
 .inr ⟨i,none,rfl,⟨by simp[Bc],.inr ⟨rfl,bl _,hl,(fun q hq=>absurd hq (by simp)),_,hi,⟨rfl,fun k u hk=>by show(Pn _).get k=_;rw[Kw];exact hk⟩,rfl,rfl,rfl,rfl,rfl⟩⟩,rfl⟩
theorem KA{s:AD}{v:AV}{l:List (List Nat)}{OB:List Nat}(hb:D6 9 1 s v l.length (Bc l) OB)(x:List Nat)(hl:l.length≤1000000):
  ∃v2 s2 OB2,Ay Tryz.prog (newObj s (R 9 1 false [.str x])) [39,39] [v,.slice (some (s.next,0)) 1 (some 1)]=some (v2,s2)∧D6 9 1 s2 v2 (l++[x]).length (Bc (l++[x])) OB2∧s2.next=s.next+2∧(∀j,j<s.next→j ∉ OB→s2.heap.get j=s.heap.get j)∧(∀j∈OB2,j∈OB∨s.next≤j):=by
 have hnx:(ext s [R 9 1 false [.str x]]).next=s.next+1:=by rw[Wm,AG];rfl
 have hbuf2:=hb.frame (s':=ext s [R 9 1 false [.str x]]) (by rw[hnx];omega) fun j hj=>Wh (hb.lt j hj)
 obtain⟨v2,s3,OB2,happ,hb2,hn2,hf2,hO2,hsl⟩:=hbuf2.append (xt:=39) (m:=1) Tryz.underlying39 aY ac (by omega) O8 Tr (by omega) (On (j:=nid s.next 0) (by rw[Wg rfl (by simp)];rfl)) rfl rfl (by omega) (by omega)
 rw[hnx]at hn2 hf2 hO2
 have hne:newObj s (R 9 1 false [.str x])=ext s [R 9 1 false [.str x]]:=by
  have:=Wl s [] (R 9 1 false [.str x])
  rw[Af]at this;exact this
 rw[← hne,Eo]at happ
 refine⟨v2,s3,OB2,happ,?_,by omega,fun j hj hB=>by rw[hf2 j (by omega) hB,Wh (by omega)],fun j hj=>(hO2 j hj).imp id fun h=>by omega⟩
 rw[bu,show Bc (l++[x])=Bc l++[.str x]from by simp[Bc]]
 exact hb2
def Tm.good:Tm→Prop
 | .var i=>-3≤i∧i≤10
 | .bnd i=>-3≤i∧i≤10
 | .con n=>n<13
 | .sel d k=>d.good∧k.good
 | .upd d k a=>d.good∧k.good∧a.good
theorem EC{S:List Tm}(hS:JA S)(hT:Told S):∀t,t∈S→t.good
 | .var i,ht=>hT.1 i ht
 | .bnd i,ht=>hT.2 i ht
 | .con n,ht=>hS.ok _ ht
 | .sel d k,ht=>⟨EC hS hT d (hS.kidS _ ht d (by simp[Tm.kids])),EC hS hT k (hS.kidS _ ht k (by simp[Tm.kids]))⟩
 | .upd d k a,ht=>⟨EC hS hT d (hS.kidS _ ht d (by simp[Tm.kids])),EC hS hT k (hS.kidS _ ht k (by simp[Tm.kids])),EC hS hT a (hS.kidS _ ht a (by simp[Tm.kids]))⟩
def Ob:List Tm:=((List.range 14).map fun(k:Nat)=>Tm.var ((k:Int) - 3))++((List.range 14).map fun(k:Nat)=>Tm.bnd ((k:Int) - 3))++(List.range 13).map Tm.con
theorem FC{t:Tm}(h:t.good)(hk:t.kids=[]):t∈Ob:=by
 cases t with
 | var i =>
  refine b5 _ (b5 _ (List.mem_map.2 ⟨(i+3).toNat,List.mem_range.2 ?_,?_⟩))
  ·have h:-3≤i∧i≤10:=h
   omega
  ·have h:-3≤i∧i≤10:=h
   congr 1;omega
 | bnd i =>
  refine b5 _ (cM _ (List.mem_map.2 ⟨(i+3).toNat,List.mem_range.2 ?_,?_⟩))
  ·have h:-3≤i∧i≤10:=h
   omega
  ·have h:-3≤i∧i≤10:=h
   congr 1;omega
 | con n=>exact cM _ (List.mem_map.2 ⟨n,List.mem_range.2 h,rfl⟩)
 | sel d k=>cases hk
 | upd d k a=>cases hk
def Gl:List Nat→List Nat→Bool
 | [],[]=>false
 | [],c::_=>!(Nat.beq c 32) && !(Nat.beq c 41)
 | c::_,[]=>!(Nat.beq c 32) && !(Nat.beq c 41)
 | a::l,b::m=>bif Nat.beq a b then Gl l m else true
def HH(r:List Nat):Prop:=r=[]∨(∃l,r=32::l)∨∃l,r=41::l
theorem JO:∀ {x y r r':List Nat},Gl x y=true→HH r→HH r'→x++r≠y++r'
 | [],[],_,_,h,_,_=>by cases h
 | [],c::y,r,r',h,hr,_=>by
  intro e
  simp only[Gl,Bool.and_eq_true,Bool.not_eq_true']at h
  rcases hr with rfl | ⟨l,rfl⟩ | ⟨l,rfl⟩
  ·cases e
  ·injection e with e1 _;subst e1;simp at h
  ·injection e with e1 _;subst e1;simp at h
 | c::x,[],r,r',h,_,hr=>by
  intro e
  simp only[Gl,Bool.and_eq_true,Bool.not_eq_true']at h
  rcases hr with rfl | ⟨l,rfl⟩ | ⟨l,rfl⟩
  ·cases e
  ·injection e with e1 _;subst e1;simp at h
  ·injection e with e1 _;subst e1;simp at h
 | a::x,b::y,r,r',h,hr,hr'=>by
  intro e
  injection e with e1 e2
  subst e1
  simp only[Gl,Nat.beq_refl,cond_true]at h
  exact JO h hr hr' e2
theorem NE:(Ob.all fun a=>Ob.all fun b=>decide (a=b) || Gl (Bn a) (Bn b))=true:=by kernel_rfl
def Ic:List Nat→Bool
 | []=>false
 | c::l=>bif Nat.beq c 40 then (match l with | d::_=>Nat.beq d 100 | []=>false)else true
theorem Id:(Ob.all fun a=>Ic (Bn a))=true:=by kernel_rfl
theorem Cs{t:Tm}(h:t.good)(hk:t.kids=[]){c:Nat}(hc:c=103∨c=115){l r:List Nat}:Bn t++r≠40::c::l:=by
 have h1:=List.all_eq_true.1 Id t (FC h hk)
 intro e
 cases ht:Bn t with
 | nil=>rw[ht]at h1;cases h1
 | cons x m =>
  rw[ht]at h1 e
  injection e with e1 e2
  subst e1
  cases m with
  | nil=>simp[Ic]at h1
  | cons y m =>
   injection e2 with e3 _
   subst e3
   simp only[Ic,Nat.beq_refl,cond_true]at h1
   have:=bj h1
   omega
theorem FI(d k:Tm)(r:List Nat):Bn (.sel d k)++r=40::103::101::116::32::(Bn d++(32::(Bn k++(41::r)))):=by simp[Bn]
theorem FJ(d k a:Tm)(r:List Nat):Bn (.upd d k a)++r=40::115::101::116::32::(Bn d++(32::(Bn k++(32::(Bn a++(41::r)))))):=by simp[Bn]
theorem Ut:∀ (t u:Tm)(r r':List Nat),t.good→u.good→HH r→HH r'→Bn t++r=Bn u++r'→t=u∧r=r':=by
 have leaf:∀ (t u:Tm) (r r':List Nat),t.good→u.good→t.kids=[]→u.kids=[]→HH r→HH r'→Bn t++r=Bn u++r'→t=u∧r=r':=by
  intro t u r r' ht hu hkt hku hr hr' e
  have h1:=List.all_eq_true.1 (List.all_eq_true.1 NE t (FC ht hkt)) u (FC hu hku)
  rw[Bool.or_eq_true]at h1
  rcases h1 with h1 | h1
  ·have:=of_decide_eq_true h1
   subst this
   exact⟨rfl,List.append_cancel_left e⟩
  ·exact absurd e (JO h1 hr hr')
 have d32:∀l,HH (32::l):=fun l=>.inr (.inl ⟨l,rfl⟩)
 have d41:∀l,HH (41::l):=fun l=>.inr (.inr ⟨l,rfl⟩)
 intro t
 induction t with
 | var i =>
  intro u r r' ht hu hr hr' e
  cases u with
  | sel d k=>rw[FI]at e;exact absurd e (Cs ht rfl (.inl rfl))
  | upd d k a=>rw[FJ]at e;exact absurd e (Cs ht rfl (.inr rfl))
  | _=>exact leaf _ _ r r' ht hu rfl rfl hr hr' e
 | bnd i =>
  intro u r r' ht hu hr hr' e
  cases u with
  | sel d k=>rw[FI]at e;exact absurd e (Cs ht rfl (.inl rfl))
  | upd d k a=>rw[FJ]at e;exact absurd e (Cs ht rfl (.inr rfl))
  | _=>exact leaf _ _ r r' ht hu rfl rfl hr hr' e
 | con n =>
  intro u r r' ht hu hr hr' e
  cases u with
  | sel d k=>rw[FI]at e;exact absurd e (Cs ht rfl (.inl rfl))
  | upd d k a=>rw[FJ]at e;exact absurd e (Cs ht rfl (.inr rfl))
  | _=>exact leaf _ _ r r' ht hu rfl rfl hr hr' e
 | sel d k h1 h2 =>
  intro u r r' ht hu hr hr' e
  rw[FI]at e
  cases u with
  | sel d' k' =>
   rw[FI]at e
   simp only[List.cons.injEq,true_and]at e
   obtain⟨rfl,e2⟩:=h1 d' _ _ ht.1 hu.1 (d32 _) (d32 _) e
   injection e2 with _ e2
   obtain⟨rfl,e3⟩:=h2 k' _ _ ht.2 hu.2 (d41 _) (d41 _) e2
   injection e3 with _ e3
   exact⟨rfl,e3⟩
  | upd d' k' a' =>
   rw[FJ]at e
   injection e with _ e
   injection e with e _
   cases e
  | _=>exact absurd e.symm (Cs hu rfl (.inl rfl))
 | upd d k a h1 h2 h3 =>
  intro u r r' ht hu hr hr' e
  rw[FJ]at e
  cases u with
  | upd d' k' a' =>
   rw[FJ]at e
   simp only[List.cons.injEq,true_and]at e
   obtain⟨rfl,e2⟩:=h1 d' _ _ ht.1 hu.1 (d32 _) (d32 _) e
   injection e2 with _ e2
   obtain⟨rfl,e3⟩:=h2 k' _ _ ht.2.1 hu.2.1 (d32 _) (d32 _) e2
   injection e3 with _ e3
   obtain⟨rfl,e4⟩:=h3 a' _ _ ht.2.2 hu.2.2 (d41 _) (d41 _) e3
   injection e4 with _ e4
   exact⟨rfl,e4⟩
  | sel d' k' =>
   rw[FI]at e
   injection e with _ e
   injection e with e _
   cases e
  | _=>exact absurd e.symm (Cs hu rfl (.inr rfl))
theorem Y9{t:Tm}(h:t.good):Bn t≠[]:=by
 cases t with
 | var i=>simp[Bn]
 | bnd i=>simp[Bn]
 | con n =>
  have h1:=List.all_eq_true.1 Id (.con n) (FC h rfl)
  intro e
  rw[e]at h1;cases h1
 | sel d k=>simp[Bn]
 | upd d k a=>simp[Bn]
theorem Us{t u:Tm}(ht:t.good)(hu:u.good)(hs:t.sz≤4096)(hne:u≠t):CT u≠CT t:=by
 unfold CT
 rw[if_neg (show ¬ 4096<t.sz by omega)]
 split
 ·exact fun e=>Y9 ht e.symm
 ·intro e
  have:=Ut u t [] [] hu ht (.inl rfl) (.inl rfl) (by rw[List.append_nil,List.append_nil];exact e)
  exact hne this.1
end
end Go.Proofs.YtickdehehcmfbaaGreatDoor.Am
set_option linter.unusedVariables false
set_option linter.unusedSimpArgs false
set_option maxRecDepth 100000
namespace Go.Proofs.YtickdehehcmfbaaGreatDoor.Am
open Go Go.Proofs
noncomputable section
def Ze:List AC:=[
 ⟨none,.p1 some,[(.const (.bool false))],(.set 1),[]⟩]
def Zf:List AC:=[
 ⟨none,.call 7,[],.push,[]⟩,
 ⟨none,.p1 (Uu Tryz.prog Go.UnOp.not),[.loc 0],(.set 13),[]⟩]
def aP:List AC:=[
 ⟨none,.p1 some,[(.const (.bool false))],(.set 1),[]⟩]
def Zi:List AC:=[
 ⟨none,.call 16,[.var 0],.push,[]⟩,
 ⟨none,.p1 (fun x=>Xv x 0),[.loc 0],.push,[]⟩,
 ⟨none,.p1 (fun x=>Xv x 1),[.loc 1],.push,[]⟩,
 ⟨none,.p1 some,[.loc 1],.push,[]⟩,
 ⟨none,.p1 some,[.loc 1],(.set 2),[]⟩]
def Zj:List AC:=[
 ⟨none,.call 8,[.var 0],.push,[]⟩,
 ⟨none,.p1 some,[.loc 0],(.set 3),[]⟩]
def Zl:List AC:=[
 ⟨none,.call 10,[.var 3],.push,[]⟩,
 ⟨none,.p1 some,[.loc 0],(.set 4),[]⟩]
def Zm:List AC:=[
 ⟨none,.p1 some,[(.const (.slice none 0 (some 0)))],(.set 5),[]⟩]
def Zn:List AC:=[
 ⟨none,.p1 some,[(.const (.int .i64 (0)))],(.set 6),[]⟩]
def X6:List AC:=[
 ⟨none,.r (fun s l=>match l with | [x]=>BY Tryz.prog s 36 x | _=>none),[.var 2],.push,[]⟩,
 ⟨none,.p2 (AO Tryz.prog .lss 3),[.var 6,.loc 0],(.set 14),[]⟩]
def Zo:List AC:=[
 ⟨none,.p2 (AH Tryz.prog 36),[.var 2,.var 6],.push,[]⟩,
 ⟨none,.r1 (fun s a=>AK Tryz.prog s 46 a),[.loc 0],.push,[]⟩,
 ⟨none,.call 17,[.var 3,.loc 0],.push,[]⟩,
 ⟨none,.p1 some,[.loc 0],(.set 7),[]⟩]
def WD:List AC:=[
 ⟨none,.p2 (AO Tryz.prog .lss 3),[(.var 7),(.const (.int .i64 (0)))],.push,[]⟩,
 ⟨(some ((.loc 0),false)),.p1 some,[.var 7],.push,[]⟩,
 ⟨(some ((.loc 1),false)),.p1 some,[.var 4],.push,[]⟩,
 ⟨(some ((.loc 2),false)),.p2 (AO Tryz.prog .geq 3),[.loc 1,.loc 0],.push,[]⟩,
 ⟨none,.p Rn,[(.loc 3),(.const (.bool true)),(.loc 0)],(.set 15),[]⟩]
def Zg:List AC:=[
 ⟨none,.p1 some,[(.const (.bool false))],(.set 1),[]⟩]
def WE:List AC:=[
 ⟨none,.p1 some,[.var 6],.push,[]⟩,
 ⟨none,.p2 (AO Tryz.prog .add 3),[(.loc 0),(.const (.int .i64 (1)))],.push,[]⟩,
 ⟨none,.p1 some,[.loc 0],(.set 6),[]⟩]
def LP:AU:=(.seq (.seq (.ops X6) (.cond (.var 14)
 .skip
 (.exit 0))) (.seq (.block 1 (.seq (.ops Zo) (.seq (.ops WD) (.cond (.var 15)
 (.seq (.ops Zg) .ret)
 .skip)))) (.ops WE)))
def WG:List AC:=[
 ⟨none,.p1 some,[(.const (.int .i64 (0)))],(.set 8),[]⟩]
def RW:List AC:=[
 ⟨none,.p2 (AO Tryz.prog .lss 3),[.var 8,.var 4],(.set 16),[]⟩]
def WH:List AC:=[
 ⟨none,.call 18,[.var 3,.var 8],.push,[]⟩,
 ⟨none,.p1 some,[.loc 0],(.set 9),[]⟩]
def WJ:List AC:=[
 ⟨none,.p1 some,[(.const (.int .i64 (0)))],(.set 10),[]⟩]
def RX:List AC:=[
 ⟨none,.r (fun s l=>match l with | [x]=>BY Tryz.prog s 27 x | _=>none),[.var 9],.push,[]⟩,
 ⟨none,.p2 (AO Tryz.prog .lss 3),[.var 10,.loc 0],(.set 17),[]⟩]
def WK:List AC:=[
 ⟨none,.p2 (AH Tryz.prog 27),[.var 9,.var 10],.push,[]⟩,
 ⟨none,.r1 (fun s a=>AK Tryz.prog s 3 a),[.loc 0],.push,[]⟩,
 ⟨none,.p2 (AO Tryz.prog .lss 3),[(.loc 0),(.const (.int .i64 (0)))],.push,[]⟩,
 ⟨(some ((.loc 0),false)),.p1 some,[.var 9],.push,[]⟩,
 ⟨(some ((.loc 1),false)),.p1 some,[.var 10],.push,[]⟩,
 ⟨(some ((.loc 2),false)),.p2 (AH Tryz.prog 27),[.loc 1,.loc 0],.push,[]⟩,
 ⟨(some ((.loc 3),false)),.r1 (fun s a=>AK Tryz.prog s 3 a),[.loc 0],.push,[]⟩,
 ⟨(some ((.loc 4),false)),.p1 some,[.var 8],.push,[]⟩,
 ⟨(some ((.loc 5),false)),.p2 (AO Tryz.prog .geq 3),[.loc 1,.loc 0],.push,[]⟩,
 ⟨none,.p Rn,[(.loc 6),(.const (.bool true)),(.loc 0)],(.set 18),[]⟩]
def Zh:List AC:=[
 ⟨none,.p1 some,[(.const (.bool false))],(.set 1),[]⟩]
def WL:List AC:=[
 ⟨none,.p1 some,[.var 10],.push,[]⟩,
 ⟨none,.p2 (AO Tryz.prog .add 3),[(.loc 0),(.const (.int .i64 (1)))],.push,[]⟩,
 ⟨none,.p1 some,[.loc 0],(.set 10),[]⟩]
def LQ:AU:=(.seq (.seq (.ops RX) (.cond (.var 17)
 .skip
 (.exit 4))) (.seq (.block 5 (.seq (.ops WK) (.cond (.var 18)
 (.seq (.ops Zh) .ret)
 .skip))) (.ops WL)))
def WM:List AC:=[
 ⟨none,.p1 some,[.var 8],(.set 11),[]⟩]
def WN:List AC:=[
 ⟨none,.call 19,[.var 3,.var 8],(.set 19),[]⟩]
def Jd:List AC:=[
 ⟨none,.p2 (AO Tryz.prog .eql 3),[(.var 19),(.const (.int .i64 (0)))],.push,[]⟩,
 ⟨none,.p1 some,[.loc 0],(.set 20),[]⟩]
def WO:List AC:=[
 ⟨none,.call 20,[.var 3,.var 8],.push,[]⟩,
 ⟨none,.call 11,[.var 3,.loc 0],.push,[]⟩,
 ⟨none,.p1 some,[.loc 0],(.set 11),[]⟩]
def LS:List AC:=[
 ⟨none,.p2 (AO Tryz.prog .eql 3),[(.var 19),(.const (.int .i64 (1)))],.push,[]⟩,
 ⟨none,.p1 some,[.loc 0],(.set 21),[]⟩]
def WP:List AC:=[
 ⟨none,.call 20,[.var 3,.var 8],.push,[]⟩,
 ⟨none,.call 21,[.var 3,.loc 0],.push,[]⟩,
 ⟨none,.p1 some,[.loc 0],(.set 11),[]⟩]
def N8:List AC:=[
 ⟨none,.p2 (AO Tryz.prog .eql 3),[(.var 19),(.const (.int .i64 (2)))],.push,[]⟩,
 ⟨none,.p1 some,[.loc 0],(.set 22),[]⟩]
def WQ:List AC:=[
 ⟨none,.call 23,[.var 3,.var 8],.push,[]⟩,
 ⟨none,.call 22,[.var 3,.loc 0],.push,[]⟩,
 ⟨none,.p1 some,[.loc 0],(.set 11),[]⟩]
def RY:List AC:=[
 ⟨none,.p2 (AO Tryz.prog .eql 3),[(.var 19),(.const (.int .i64 (3)))],.push,[]⟩,
 ⟨none,.p1 some,[.loc 0],(.set 23),[]⟩]
def WS:List AC:=[
 ⟨none,.p2 (AH Tryz.prog 27),[(.var 9),(.const (.int .i64 (0)))],.push,[]⟩,
 ⟨none,.r1 (fun s a=>AK Tryz.prog s 3 a),[.loc 0],.push,[]⟩,
 ⟨none,.p2 (AH Tryz.prog 27),[(.var 9),(.const (.int .i64 (1)))],.push,[]⟩,
 ⟨none,.r1 (fun s a=>AK Tryz.prog s 3 a),[.loc 0],.push,[]⟩,
 ⟨none,.call 24,[.var 3,.loc 2,.loc 0],.push,[]⟩,
 ⟨none,.p1 some,[.loc 0],(.set 11),[]⟩]
def WT:List AC:=[
 ⟨none,.p2 (AO Tryz.prog .eql 3),[(.var 19),(.const (.int .i64 (4)))],.push,[]⟩,
 ⟨none,.p1 some,[.loc 0],(.set 24),[]⟩]
def WU:List AC:=[
 ⟨none,.p2 (AH Tryz.prog 27),[(.var 9),(.const (.int .i64 (0)))],.push,[]⟩,
 ⟨none,.r1 (fun s a=>AK Tryz.prog s 3 a),[.loc 0],.push,[]⟩,
 ⟨none,.p2 (AH Tryz.prog 27),[(.var 9),(.const (.int .i64 (1)))],.push,[]⟩,
 ⟨none,.r1 (fun s a=>AK Tryz.prog s 3 a),[.loc 0],.push,[]⟩,
 ⟨none,.p2 (AH Tryz.prog 27),[(.var 9),(.const (.int .i64 (2)))],.push,[]⟩,
 ⟨none,.r1 (fun s a=>AK Tryz.prog s 3 a),[.loc 0],.push,[]⟩,
 ⟨none,.call 25,[.var 3,.loc 4,.loc 2,.loc 0],.push,[]⟩,
 ⟨none,.p1 some,[.loc 0],(.set 11),[]⟩]
def RZ:List AC:=[
 ⟨none,.p2 (AO Tryz.prog .neq 3),[.var 11,.var 8],(.set 25),[]⟩]
def WV:List AC:=[
 ⟨none,.p1 some,[(.const (.bool false))],(.set 1),[]⟩]
def Rp:List AC:=[
 ⟨none,.p1 some,[(.const (.int .i64 (0)))],(.set 12),[]⟩]
def R0:List AC:=[
 ⟨none,.p2 (AO Tryz.prog .lss 3),[.var 12,.var 8],(.set 26),[]⟩]
def WW:List AC:=[
 ⟨none,.call 15,[.var 3,.var 8],.push,[]⟩,
 ⟨none,.p2 (AO Tryz.prog .leq 3),[(.loc 0),(.const (.int .i64 (4096)))],.push,[]⟩,
 ⟨(some ((.loc 0),true)),.p1 some,[.var 5],.push,[]⟩,
 ⟨(some ((.loc 1),true)),.p1 some,[.var 12],.push,[]⟩,
 ⟨(some ((.loc 2),true)),.p2 (AH Tryz.prog 39),[.loc 1,.loc 0],.push,[]⟩,
 ⟨(some ((.loc 3),true)),.r1 (fun s a=>AK Tryz.prog s 9 a),[.loc 0],.push,[]⟩,
 ⟨(some ((.loc 4),true)),.p1 some,[.var 3],.push,[]⟩,
 ⟨(some ((.loc 5),true)),.p1 some,[.var 8],.push,[]⟩,
 ⟨(some ((.loc 6),true)),.call 26,[.loc 1,.loc 0],.push,[⟨(some ((.loc 7),true)),.r1 (fun s a=>AK Tryz.prog s 9 a),[.loc 4],(.loc 3)⟩]⟩,
 ⟨(some ((.loc 7),true)),.p2 (AO Tryz.prog .eql 9),[.loc 3,.loc 0],.push,[]⟩,
 ⟨none,.p Rn,[(.loc 8),(.loc 0),(.const (.bool false))],(.set 27),[]⟩]
def Zk:List AC:=[
 ⟨none,.p1 some,[(.const (.bool false))],(.set 1),[]⟩]
def R3:List AC:=[
 ⟨none,.p1 some,[.var 12],.push,[]⟩,
 ⟨none,.p2 (AO Tryz.prog .add 3),[(.loc 0),(.const (.int .i64 (1)))],.push,[]⟩,
 ⟨none,.p1 some,[.loc 0],(.set 12),[]⟩]
def Jc:AU:=(.seq (.seq (.ops R0) (.cond (.var 26)
 .skip
 (.exit 7))) (.seq (.block 8 (.seq (.ops WW) (.cond (.var 27)
 (.seq (.ops Zk) .ret)
 .skip))) (.ops R3)))
def R4:List AC:=[
 ⟨none,.p1 some,[.var 5],.push,[]⟩,
 ⟨none,.call 26,[.var 3,.var 8],.push,[]⟩,
 ⟨none,.mk (fun l=>(Aa Tryz.prog 39 1 (zipIdx [0] l)).bind fun r=>some (r,.slice 1)),[.loc 0],.push,[]⟩,
 ⟨none,.e (fun s l=>Ay Tryz.prog s [39,39] l),[.loc 2,.loc 0],.push,[]⟩,
 ⟨none,.p1 some,[.loc 0],(.set 5),[]⟩]
def N9:List AC:=[
 ⟨none,.p1 some,[.var 8],.push,[]⟩,
 ⟨none,.p2 (AO Tryz.prog .add 3),[(.loc 0),(.const (.int .i64 (1)))],.push,[]⟩,
 ⟨none,.p1 some,[.loc 0],(.set 8),[]⟩]
def LR:AU:=(.seq (.seq (.ops RW) (.cond (.var 16)
 .skip
 (.exit 2))) (.seq (.block 3 (.seq (.ops WH) (.seq (.seq (.ops WJ) (.block 4 (.loop LQ))) (.seq (.ops WM) (.seq (.seq (.ops WN) (.block 6 (.seq (.ops Jd) (.cond (.var 20)
 (.ops WO)
 (.seq (.ops LS) (.cond (.var 21)
 (.ops WP)
 (.seq (.ops N8) (.cond (.var 22)
 (.ops WQ)
 (.seq (.ops RY) (.cond (.var 23)
 (.ops WS)
 (.seq (.ops WT) (.cond (.var 24)
 (.ops WU)
 .skip)))))))))))) (.seq (.seq (.ops RZ) (.cond (.var 25)
 (.seq (.ops WV) .ret)
 .skip)) (.seq (.seq (.ops Rp) (.block 7 (.loop Jc))) (.ops R4)))))))) (.ops N9)))
def WX:List AC:=[
 ⟨none,.call 10,[.var 3],.push,[]⟩,
 ⟨none,.p2 (AO Tryz.prog .eql 3),[.loc 0,.var 4],.push,[]⟩,
 ⟨none,.p1 some,[.loc 0],(.set 1),[]⟩]
def c4:At:=⟨1,28,(.seq (.ops Ze) (.seq (.seq (.ops Zf) (.cond (.var 13)
 (.seq (.ops aP) .ret)
 .skip)) (.seq (.ops Zi) (.seq (.ops Zj) (.seq (.ops Zl) (.seq (.ops Zm) (.seq (.seq (.ops Zn) (.block 0 (.loop LP))) (.seq (.seq (.ops WG) (.block 2 (.loop LR))) (.seq (.ops WX) .ret))))))))),[((.var 1),none)]⟩
theorem Zy:AP Tryz.prog 4=some c4:=by kernel_rfl
end
end Go.Proofs.YtickdehehcmfbaaGreatDoor.Am
set_option linter.unusedVariables false
set_option linter.unusedSimpArgs false
namespace Go.Proofs.YtickdehehcmfbaaGreatDoor.Am
open Go Go.Proofs
noncomputable section
theorem ED{i o n k:Nat}{c:Option Nat}(hk:k<n):AH Tryz.prog 27 (.slice (some (i,o)) n c) (iv (k:Int))=some (.ptr (some (i,o+k))):=by
 have:=Ac (P:=Tryz.prog) (i:=i) (o:=o) (cap:=c) Tryz.underlying27 Fy hk
 rwa[b0]at this
set_option maxRecDepth 20000 in
theorem KB        {E : Bl}  (hE : Ai    E) {p : Nat} {S : List Tm} {O : List Nat} {kids : List Tm} {sB : AD}  (h : AQ      sB p S O) (hg : By   sB O) (h3 : kids.length ≤ 3) (h0 : 0 < kids.length)
    (hk:∀t∈kids,CT t=Bn t∧∀ (s:AD) (K:AV→AD→Prop),AQ s p S O→By s O→(∀s',BD s.next s s'→K (.str (CT t)) s')→WF E 26 [.ptr (some (p,0)),iv (ix S t:Int)] K s)
    {bx wb:Nat} {ec:List AV} {w:List Nat} (hbx:sB.heap.get bx=some (R 70 0 false ec)) (hbl:bx<sB.next) (hec:∀k u,kids[k]? = some u→ec[2+k]? = some (iv (ix S u:Int)))
    (hwb:sB.heap.get wb=some (R 9 1 false [.str w])) (hwl:wb<sB.next)
    (a1 a2 a4 a6 a7 a8 a9 a10 a11 a12 a16:AV) {Q:Au→Prop} {marks:List Nat}
    (hend:∀ (y6 y16 v5:AV) s' OB,BD sB.next sB s'→D6 9 1 s' v5 (kids.length+1) (Bc (w::kids.map Bn)) OB →
      AT 1 Q ⟨.exit 1,[.ptr (some (p,0)),a1,a2,.ptr (some (bx,0)),a4,v5,y6,a7,a8,a9,a10,a11,a12,.slice (some (bx,2)) kids.length (some 3),iv (kids.length:Int),iv (kids.length:Int),y16],marks,s'⟩):
    WC E none (AU.loop Ea) (AT 1 Q) [.ptr (some (p,0)),a1,a2,.ptr (some (bx,0)),a4,.slice (some (wb,0)) 1 (some 1),a6,a7,a8,a9,a10,a11,a12,.slice (some (bx,2)) kids.length (some 3),iv (kids.length:Int),iv 0,a16] marks sB:=by
  have hread:∀ (s2:AD),BD sB.next sB s2→∀k u,kids[k]? = some u→Cz (s2.heap.get bx) (2+k)=some (iv (ix S u:Int)):=fun s2 ho k u hu=>by
    rw[ho.2 bx hbl,hbx,Wi];exact hec k u hu
  have key:∀ (d k:Nat) (s2:AD) (v5:AV) OB (b6 b16:AV),d+k=kids.length→1≤k→BD sB.next sB s2→D6 9 1 s2 v5 (k+1) (Bc (w::(kids.take k).map Bn)) OB→(∀j∈OB,sB.next≤j) →
      WC E none (AU.loop Ea) (AT 1 Q) [.ptr (some (p,0)),a1,a2,.ptr (some (bx,0)),a4,v5,b6,a7,a8,a9,a10,a11,a12,.slice (some (bx,2)) kids.length (some 3),iv (kids.length:Int),iv (k:Int),b16] marks s2:=by
    intro d
    induction d with
    | zero =>
      intro k s2 v5 OB b6 b16 hd _ ho hb hO
      have hk':k=kids.length:=by omega
      subst hk'
      refine WC.loop' ?_
      have hlt:¬ ((kids.length:Int)<(kids.length:Int)):=by omega
      rw[bw (bM _)]at hb
      simp only[Ea,KT,Qa,Qb,Qc,Qd,Qe,Qf,Qg,Qh,Qi,Qj,Qk,Ql,Qm,Qn,true_and,and_true,Qo,Qp,Qq,Qr,Qs,Qt,Qu,Qv,Qw,Qx,Qy,Qz,Ra,Rb,Rc,Rd,Re,Rf,Rg,Rh,Ri,Rj,Rk,Rl,Rm,Ya,Yb,Yc,Rn,Ro,Xv,Yd,Ye,Rq,Rs,Rt,Ru,Rw,Rx,Ry,Rq,hlt,decide_false]
      exact hend _ _ _ _ _ ho hb
    | succ d ih =>
      intro k s2 v5 OB b6 b16 hd hk1 ho hb hO
      have hkl:k<kids.length:=by omega
      obtain⟨u,hu⟩:∃u,kids[k]? = some u:=⟨_,bc hkl⟩
      have hum:=bn hu
      have hlt:(k:Int)<(kids.length:Int):=by omega
      have hadd:i64 ((k:Int)+1):=by unfold i64;omega
      have hld:=hread s2 ho k u hu
      refine WC.loop' ?_
      obtain⟨W,hW⟩:∃W,W=AU.loop Ea:=⟨_,rfl⟩
      rw[← hW]
      simp only[Ea,KT,Mo,Mp,Qa,Qb,Qc,Qd,Qe,Qf,Qg,Qh,Qi,Qj,Qk,Ql,Qm,Qn,true_and,and_true,Qo,Qp,Qq,Qr,Qs,Qt,Qu,Qv,Qw,Qx,Qy,Qz,Ra,Rb,Rc,Rd,Re,Rf,Rg,Rh,Ri,Rj,Rk,Rl,Rm,Ya,Yb,Yc,Rn,Ro,Xv,Yd,Ye,Rq,Rs,Rt,Ru,Rw,Rx,Ry,Rq,hlt,decide_true,ED hkl,C3,hld,Rz,Wa,Wb,Wc,Wd,We,Wf,Wg,Wh,Wi,Wj,Wl,Wm,Wn,Wp,Wq,Wr,Ws,Wt,Wu,Wv,Ww,Wx,Wy,Wz,Xa,Xb,Xc,Xd,Xe,Xf,Xg,Xh,Xi,Xj,Xk,Xl,Xm,Xn,Xo,Xp,Xq,Xr,bO,bT,bS,bP,bU,bV,List.getElem?_cons_zero,List.getElem?_cons_succ,bR,bX,bW,bY,bN,Nat.reduceAdd,Nat.reduceLT,Nat.reduceLeDiff,decide_true,decide_false,Bool.true_and,Bool.and_true,bZ,bM,Option.some.injEq,Xs,Xt,Xu,Xv]
      refine(hk u hum).2 s2 _ (h.old ho) (hg.old ho) fun s3 ho3=>?_
      rw[(hk u hum).1]
      have hb3:=hb.frame (s':=s3) ho3.1 fun j hj=>ho3.2 j (hb.lt j hj)
      have hbl:=hb.lt
      have hso:=ho.1
      have hln:(w::(kids.take k).map Bn).length=k+1:=by simp;omega
      rw[← hln]at hb3
      obtain⟨v2,s4,OB2,e1,e2,e3,e4,e5⟩:=KA hb3 (Bn u) (by omega)
      have ho34:=ho3.1
      have:=ih (k+1) s4 v2 OB2 (iv (ix S u:Int)) (.bool true) (by omega) (by omega) ⟨by omega,fun j hj=>?_⟩ (by
          have hl2:(w::(kids.take k).map Bn++[Bn u]).length=k+1+1:=by simp;omega
          rw[hl2]at e2
          rw[cG hkl,show kids[k]=u from by rw[bc hkl]at hu;injection hu,cK]
          exact e2) (fun j hj=>?_)
      · rw[← hW,show((k+1:Nat):Int)=(k:Int)+1 from by omega]at this
        simp only[Qa,Qb,Qc,Qd,Qe,Qf,Qg,Qh,Qi,Qj,Qk,Ql,Qm,Qn,true_and,and_true,Qo,Qp,Qq,Qr,Qs,Qt,Qu,Qv,Qw,Qx,Qy,Qz,Ra,Rb,Rc,Rd,Re,Rf,Rg,Rh,Ri,Rj,Rk,Rl,Rm,Ya,Yb,Yc,Rn,Ro,Xv,Yd,Ye,Rq,Rs,Rt,Ru,Rw,Rx,Ry,Ez,e1,Mq,A9 _ _ _ _ hadd,Rz,Wa,Wb,Wc,Wd,We,Wf,Wg,Wh,Wi,Wj,Wl,Wm,Wn,Wp,Wq,Wr,Ws,Wt,Wu,Wv,Ww,Wx,Wy,Wz,Xa,Xb,Xc,Xd,Xe,Xf,Xg,Xh,Xi,Xj,Xk,Xl,Xm,Xn,Xo,Xp,Xq,Xr,bO,bT,bS,bP,bU,bV,List.getElem?_cons_zero,List.getElem?_cons_succ,bR,bX,bW,bY,bN,Nat.reduceAdd,Nat.reduceLT,Nat.reduceLeDiff,decide_true,decide_false,Bool.true_and,Bool.and_true,bZ,bM,Option.some.injEq,Xs,Xt,Xu,Xv]
        exact this
      · rw[e4 j (by omega) (fun hm=>by have:=hO j hm;omega),ho3.2 j (by omega),ho.2 j hj]
      · exact(e5 j hj).elim (hO j) (fun hl=>by omega)
  obtain⟨u,hu⟩:∃u,kids[0]? = some u:=⟨_,bc h0⟩
  have hum:=bn hu
  have hlt:(0:Int)<(kids.length:Int):=by omega
  have hld:=hread sB (BD.refl _ _) 0 u hu
  have hix0:=ED (i:=bx) (o:=2) (c:=some 3) h0
  have hadd:i64 ((0:Int)+1):=by unfold i64;omega
  refine WC.loop' ?_
  obtain⟨W,hW⟩:∃W,W=AU.loop Ea:=⟨_,rfl⟩
  rw[← hW]
  have hix0:AH Tryz.prog 27 (.slice (some (bx,2)) kids.length (some 3)) (iv 0)=some (.ptr (some (bx,2+0))):=hix0
  simp only[Ea,KT,Mo,Mp,Qa,Qb,Qc,Qd,Qe,Qf,Qg,Qh,Qi,Qj,Qk,Ql,Qm,Qn,true_and,and_true,Qo,Qp,Qq,Qr,Qs,Qt,Qu,Qv,Qw,Qx,Qy,Qz,Ra,Rb,Rc,Rd,Re,Rf,Rg,Rh,Ri,Rj,Rk,Rl,Rm,Ya,Yb,Yc,Rn,Ro,Xv,Yd,Ye,Rq,Rs,Rt,Ru,Rw,Rx,Ry,Rq,hlt,decide_true,hix0,C3,hld,Rz,Wa,Wb,Wc,Wd,We,Wf,Wg,Wh,Wi,Wj,Wl,Wm,Wn,Wp,Wq,Wr,Ws,Wt,Wu,Wv,Ww,Wx,Wy,Wz,Xa,Xb,Xc,Xd,Xe,Xf,Xg,Xh,Xi,Xj,Xk,Xl,Xm,Xn,Xo,Xp,Xq,Xr,bO,bT,bS,bP,bU,bV,List.getElem?_cons_zero,List.getElem?_cons_succ,bR,bX,bW,bY,bN,Nat.reduceAdd,Nat.reduceLT,Nat.reduceLeDiff,decide_true,decide_false,Bool.true_and,Bool.and_true,bZ,bM,Option.some.injEq,Xs,Xt,Xu,Xv]
  refine(hk u hum).2 sB _ h hg fun s3 ho3=>?_
  rw[(hk u hum).1]
  have hn3:=ho3.1
  have hhead:=QG (s:=newObj s3 (R 9 1 false [.str (Bn u)])) (i:=wb) (j:=s3.next) (x:=w) (y:=Bn u) (by rw[A6,if_neg (by omega),ho3.2 wb hwl];exact hwb) (by rw[A6,if_pos rfl])
  have hs4:∀j,j<s3.next→(newObj (newObj s3 (R 9 1 false [.str (Bn u)])) (R 9 1 true [.str w,.str (Bn u)])).heap.get j=s3.heap.get j:=fun j hj=>by
    rw[A6,if_neg (by show j≠s3.next+1;omega),A6,if_neg (by omega)]
  have:=key (kids.length - 1) 1 (newObj (newObj s3 (R 9 1 false [.str (Bn u)])) (R 9 1 true [.str w,.str (Bn u)])) (.slice (some (s3.next+1,0)) 2 none) [s3.next+1] (iv (ix S u:Int)) (.bool true) (by omega) (bM _) ⟨bo hn3 (by show s3.next≤s3.next+1+1;omega),fun j hj=>by rw[hs4 j (by omega),ho3.2 j hj]⟩ (by
      rw[show kids.take 1=[u]from by rw[cG h0,show kids[0]=u from by rw[bc h0]at hu;injection hu];rfl]
      exact Td (l:=[w,Bn u]) (by rw[A6];exact if_pos rfl) (cL _)) (fun j hj=>by rw[List.mem_singleton.1 hj];omega)
  rw[← hW]at this
  simp only[Qa,Qb,Qc,Qd,Qe,Qf,Qg,Qh,Qi,Qj,Qk,Ql,Qm,Qn,true_and,and_true,Qo,Qp,Qq,Qr,Qs,Qt,Qu,Qv,Qw,Qx,Qy,Qz,Ra,Rb,Rc,Rd,Re,Rf,Rg,Rh,Ri,Rj,Rk,Rl,Rm,Ya,Yb,Yc,Rn,Ro,Xv,Yd,Ye,Rq,Rs,Rt,Ru,Rw,Rx,Ry,Ez,hhead,Mq,A9 _ _ _ _ hadd,Rz,Wa,Wb,Wc,Wd,We,Wf,Wg,Wh,Wi,Wj,Wl,Wm,Wn,Wp,Wq,Wr,Ws,Wt,Wu,Wv,Ww,Wx,Wy,Wz,Xa,Xb,Xc,Xd,Xe,Xf,Xg,Xh,Xi,Xj,Xk,Xl,Xm,Xn,Xo,Xp,Xq,Xr,bO,bT,bS,bP,bU,bV,List.getElem?_cons_zero,List.getElem?_cons_succ,bR,bX,bW,bY,bN,Nat.reduceAdd,Nat.reduceLT,Nat.reduceLeDiff,decide_true,decide_false,Bool.true_and,Bool.and_true,bZ,bM,Option.some.injEq,Xs,Xt,Xu,Xv]
  exact this
set_option maxRecDepth 20000 in
theorem Ov      {E : Bl}  (hE : Ai    E) {p : Nat} {S : List Tm} {O : List Nat} (hT : Told S) : ∀ (n : Nat) (t : Tm), ix S t < n → t ∈ S → ∀ (s : AD)  (K : AV → AD  → Prop), AQ      s p S O → By   s O → (∀ s', BD  s.next s s' → K (.str (CT   t)) s') →
    WF E 26 [.ptr (some (p,0)),iv (ix S t:Int)] K s:=by
  intro n
  induction n with
  | zero=>intro t h;omega
  | succ n ihn =>
    intro t hn ht s K h hg hK
    obtain⟨c0,c1,c2,c3,c4,c5,c6,hc,d0,d1,d2,d3,d4,d5,d6⟩:=t.cells7 (h.ok.ok t ht)
    refine hE.go YL (by decide) rfl ?_
    simp only[ar,Vi,Vj,Qa,Qb,Qc,Qd,Qe,Qf,Qg,Qh,Qi,Qj,Qk,Ql,Qm,Qn,true_and,and_true,Qo,Qp,Qq,Qr,Qs,Qt,Qu,Qv,Qw,Qx,Qy,Qz,Ra,Rb,Rc,Rd,Re,Rf,Rg,Rh,Ri,Rj,Rk,Rl,Rm,Ya,Yb,Yc,Rn,Ro,Xv,Yd,Ye,Rq,Rs,Rt,Ru,Rw,Rx,Ry]
    refine JP hE h ht fun r s1 ho1 he=>?_
    obtain⟨m,rfl,_,_⟩:=he
    have hent:BV S t m=[iv t.kind,iv t.id,iv (part S t 0),iv (part S t 1),iv (part S t 2),.str t.ktext,c0,c1,c2,c3,c4,c5,c6,iv (t.kids.length:Int),iv (t.sz:Int),.map (some m)]:=by
      simp only[BV,BI,hc,bS,bP]
    rw[hent]
    have hg1:=hg.old ho1
    have h1:=h.old ho1
    have hend:∀s',BD s1.next s1 s'→K (.str (CT t)) s':=fun s' h'=>hK s' (ho1.trans (h'.mono ho1.1))
    generalize hs1:s1.next=b at hend
    have hs10:s1=ext s1 []:=(Af s1).symm
    have hxo:∀os,BD b s1 (ext s1 os):=fun os=>by rw[← hs1];exact AS
    rw[hs10]
    by_cases hz:4096<t.sz
    · have hd : decide ((4096 : Int) < (t.sz : Int)) = true := decide_eq_true (by omega)
      have he:CT t=[]:=if_pos hz
      rw[he]at hend
      simp only[Qa,Qb,Qc,Qd,Qe,Qf,Qg,Qh,Qi,Qj,Qk,Ql,Qm,Qn,true_and,and_true,Qo,Qp,Qq,Qr,Qs,Qt,Qu,Qv,Qw,Qx,Qy,Qz,Ra,Rb,Rc,Rd,Re,Rf,Rg,Rh,Ri,Rj,Rk,Rl,Rm,Ya,Yb,Yc,Rn,Ro,Xv,Yd,Ye,Rq,Rs,Rt,Ru,Rw,Rx,Ry,-Qu,-Qv,hs1,Ts,JJ,PA,d0,d1,d2,d3,d4,d5,d6,RA,C9,M6,C3,Rs,hd,Rz,Wa,Wb,Wc,Wd,We,Wf,Wg,Wh,Wi,Wj,Wl,Wm,Wn,Wp,Wq,Wr,Ws,Wt,Wu,Wv,Ww,Wx,Wy,Wz,Xa,Xb,Xc,Xd,Xe,Xf,Xg,Xh,Xi,Xj,Xk,Xl,Xm,Xn,Xo,Xp,Xq,Xr,bO,bT,bS,bP,bU,bV,List.getElem?_cons_zero,List.getElem?_cons_succ,bR,bX,bW,bY,bN,Nat.reduceAdd,Nat.reduceLT,Nat.reduceLeDiff,decide_true,decide_false,Bool.true_and,Bool.and_true,bZ,bM,Option.some.injEq,Xs,Xt,Xu,Xv]
      rw[Qu]
      simp only[Vk,Qa,Qb,Qc,Qd,Qe,Qf,Qg,Qh,Qi,Qj,Qk,Ql,Qm,Qn,true_and,and_true,Qo,Qp,Qq,Qr,Qs,Qt,Qu,Qv,Qw,Qx,Qy,Qz,Ra,Rb,Rc,Rd,Re,Rf,Rg,Rh,Ri,Rj,Rk,Rl,Rm,Ya,Yb,Yc,Rn,Ro,Xv,Yd,Ye,Rq,Rs,Rt,Ru,Rw,Rx,Ry]
      exact hend _ (hxo _)
    · have hd : decide ((4096 : Int) < (t.sz : Int)) = false := decide_eq_false (by omega)
      have he:CT t=Bn t:=if_neg hz
      rw[he]at hend
      simp only[Qa,Qb,Qc,Qd,Qe,Qf,Qg,Qh,Qi,Qj,Qk,Ql,Qm,Qn,true_and,and_true,Qo,Qp,Qq,Qr,Qs,Qt,Qu,Qv,Qw,Qx,Qy,Qz,Ra,Rb,Rc,Rd,Re,Rf,Rg,Rh,Ri,Rj,Rk,Rl,Rm,Ya,Yb,Yc,Rn,Ro,Xv,Yd,Ye,Rq,Rs,Rt,Ru,Rw,Rx,Ry,-Qu,-Qv,hs1,Ts,JJ,PA,d0,d1,d2,d3,d4,d5,d6,RA,C9,M6,C3,Rs,hd,Rz,Wa,Wb,Wc,Wd,We,Wf,Wg,Wh,Wi,Wj,Wl,Wm,Wn,Wp,Wq,Wr,Ws,Wt,Wu,Wv,Ww,Wx,Wy,Wz,Xa,Xb,Xc,Xd,Xe,Xf,Xg,Xh,Xi,Xj,Xk,Xl,Xm,Xn,Xo,Xp,Xq,Xr,bO,bT,bS,bP,bU,bV,List.getElem?_cons_zero,List.getElem?_cons_succ,bR,bX,bW,bY,bN,Nat.reduceAdd,Nat.reduceLT,Nat.reduceLeDiff,decide_true,decide_false,Bool.true_and,Bool.and_true,bZ,bM,Option.some.injEq,Xs,Xt,Xu,Xv]
      rw[Qv]
      cases t with
      | var i =>
        have hi:=hT.1 i ht
        have hil:=(Dx hi).2
        simp only[Tm.kind,Tm.id,JV,JW,JX,Vl,Qa,Qb,Qc,Qd,Qe,Qf,Qg,Qh,Qi,Qj,Qk,Ql,Qm,Qn,true_and,and_true,Qo,Qp,Qq,Qr,Qs,Qt,Qu,Qv,Qw,Qx,Qy,Qz,Ra,Rb,Rc,Rd,Re,Rf,Rg,Rh,Ri,Rj,Rk,Rl,Rm,Ya,Yb,Yc,Rn,Ro,Xv,Yd,Ye,Rq,Rs,Rt,Ru,Rw,Rx,Ry,hs1,Gv,Gu,M4,C3,Rw,Int.reduceEq,Rz,Wa,Wb,Wc,Wd,We,Wf,Wg,Wh,Wi,Wj,Wl,Wm,Wn,Wp,Wq,Wr,Ws,Wt,Wu,Wv,Ww,Wx,Wy,Wz,Xa,Xb,Xc,Xd,Xe,Xf,Xg,Xh,Xi,Xj,Xk,Xl,Xm,Xn,Xo,Xp,Xq,Xr,bO,bT,bS,bP,bU,bV,List.getElem?_cons_zero,List.getElem?_cons_succ,bR,bX,bW,bY,bN,Nat.reduceAdd,Nat.reduceLT,Nat.reduceLeDiff,decide_true,decide_false,Bool.true_and,Bool.and_true,bZ,bM,Option.some.injEq,Xs,Xt,Xu,Xv]
        refine Ji hE (by rw[BN (Wh hg1.2.1)];exact hg1.1) hi ?_
        simp only[Qa,Qb,Qc,Qd,Qe,Qf,Qg,Qh,Qi,Qj,Qk,Ql,Qm,Qn,true_and,and_true,Qo,Qp,Qq,Qr,Qs,Qt,Qu,Qv,Qw,Qx,Qy,Qz,Ra,Rb,Rc,Rd,Re,Rf,Rg,Rh,Ri,Rj,Rk,Rl,Rm,Ya,Yb,Yc,Rn,Ro,Xv,Yd,Ye,Rq,Rs,Rt,Ru,Rw,Rx,Ry,Ho (x:=[120]) (y:=GI i) (by simp;omega)]
        exact hend _ (hxo _)
      | bnd i =>
        have hi:=hT.2 i ht
        have hil:=(Dx hi).2
        simp only[Tm.kind,Tm.id,JV,JW,JX,LM,Vm,Qa,Qb,Qc,Qd,Qe,Qf,Qg,Qh,Qi,Qj,Qk,Ql,Qm,Qn,true_and,and_true,Qo,Qp,Qq,Qr,Qs,Qt,Qu,Qv,Qw,Qx,Qy,Qz,Ra,Rb,Rc,Rd,Re,Rf,Rg,Rh,Ri,Rj,Rk,Rl,Rm,Ya,Yb,Yc,Rn,Ro,Xv,Yd,Ye,Rq,Rs,Rt,Ru,Rw,Rx,Ry,hs1,Gv,Gu,M4,C3,Rw,Int.reduceEq,Rz,Wa,Wb,Wc,Wd,We,Wf,Wg,Wh,Wi,Wj,Wl,Wm,Wn,Wp,Wq,Wr,Ws,Wt,Wu,Wv,Ww,Wx,Wy,Wz,Xa,Xb,Xc,Xd,Xe,Xf,Xg,Xh,Xi,Xj,Xk,Xl,Xm,Xn,Xo,Xp,Xq,Xr,bO,bT,bS,bP,bU,bV,List.getElem?_cons_zero,List.getElem?_cons_succ,bR,bX,bW,bY,bN,Nat.reduceAdd,Nat.reduceLT,Nat.reduceLeDiff,decide_true,decide_false,Bool.true_and,Bool.and_true,bZ,bM,Option.some.injEq,Xs,Xt,Xu,Xv]
        refine Ji hE (by rw[BN (Wh hg1.2.1)];exact hg1.1) hi ?_
        simp only[Qa,Qb,Qc,Qd,Qe,Qf,Qg,Qh,Qi,Qj,Qk,Ql,Qm,Qn,true_and,and_true,Qo,Qp,Qq,Qr,Qs,Qt,Qu,Qv,Qw,Qx,Qy,Qz,Ra,Rb,Rc,Rd,Re,Rf,Rg,Rh,Ri,Rj,Rk,Rl,Rm,Ya,Yb,Yc,Rn,Ro,Xv,Yd,Ye,Rq,Rs,Rt,Ru,Rw,Rx,Ry,Ho (x:=[98]) (y:=GI i) (by simp;omega)]
        exact hend _ (hxo _)
      | con k =>
        simp only[Tm.kind,Tm.id,JV,JW,JX,LM,KS,Q8,Qa,Qb,Qc,Qd,Qe,Qf,Qg,Qh,Qi,Qj,Qk,Ql,Qm,Qn,true_and,and_true,Qo,Qp,Qq,Qr,Qs,Qt,Qu,Qv,Qw,Qx,Qy,Qz,Ra,Rb,Rc,Rd,Re,Rf,Rg,Rh,Ri,Rj,Rk,Rl,Rm,Ya,Yb,Yc,Rn,Ro,Xv,Yd,Ye,Rq,Rs,Rt,Ru,Rw,Rx,Ry,hs1,Gv,Gu,Yl,C3,aK,Rw,Int.reduceEq,Rz,Wa,Wb,Wc,Wd,We,Wf,Wg,Wh,Wi,Wj,Wl,Wm,Wn,Wp,Wq,Wr,Ws,Wt,Wu,Wv,Ww,Wx,Wy,Wz,Xa,Xb,Xc,Xd,Xe,Xf,Xg,Xh,Xi,Xj,Xk,Xl,Xm,Xn,Xo,Xp,Xq,Xr,bO,bT,bS,bP,bU,bV,List.getElem?_cons_zero,List.getElem?_cons_succ,bR,bX,bW,bY,bN,Nat.reduceAdd,Nat.reduceLT,Nat.reduceLeDiff,decide_true,decide_false,Bool.true_and,Bool.and_true,bZ,bM,Option.some.injEq,Xs,Xt,Xu,Xv]
        exact hend _ (hxo _)
      | sel d k =>
        simp only[Tm.kind,Tm.id,JV,JW,JX,LM,KS,Ml,Q9,Mm,Mn,Qa,Qb,Qc,Qd,Qe,Qf,Qg,Qh,Qi,Qj,Qk,Ql,Qm,Qn,true_and,and_true,Qo,Qp,Qq,Qr,Qs,Qt,Qu,Qv,Qw,Qx,Qy,Qz,Ra,Rb,Rc,Rd,Re,Rf,Rg,Rh,Ri,Rj,Rk,Rl,Rm,Ya,Yb,Yc,Rn,Ro,Xv,Yd,Ye,Rq,Rs,Rt,Ru,Rw,Rx,Ry,hs1,Gv,M5,Gu,Kd,C3,Rw,Int.reduceEq,Ez,Ta (ND (Tm.sel d k)),AZ Tryz.underlying27,Rz,Wa,Wb,Wc,Wd,We,Wf,Wg,Wh,Wi,Wj,Wl,Wm,Wn,Wp,Wq,Wr,Ws,Wt,Wu,Wv,Ww,Wx,Wy,Wz,Xa,Xb,Xc,Xd,Xe,Xf,Xg,Xh,Xi,Xj,Xk,Xl,Xm,Xn,Xo,Xp,Xq,Xr,bO,bT,bS,bP,bU,bV,List.getElem?_cons_zero,List.getElem?_cons_succ,bR,bX,bW,bY,bN,Nat.reduceAdd,Nat.reduceLT,Nat.reduceLeDiff,decide_true,decide_false,Bool.true_and,Bool.and_true,bZ,bM,Option.some.injEq,Xs,Xt,Xu,Xv]
        have hkz:∀u∈(Tm.sel d k).kids,CT u=Bn u∧∀ (s:AD) (K:AV→AD→Prop),AQ s p S O→By s O→(∀s',BD s.next s s'→K (.str (CT u)) s')→WF E 26 [.ptr (some (p,0)),iv (ix S u:Int)] K s:=fun u hu =>
          ⟨if_neg (by have:=Ss hu (by omega);omega),ihn u (by have:=(h.ok.kid ht hu).2;omega) (h.ok.kid ht hu).1⟩
        have hlen:=EM h.ok hT _ ht (by omega)
        refine KB hE (h1.old (AS (s:=s1))) (hg1.old (AS (s:=s1))) (by simp[Tm.kids]) (by simp[Tm.kids]) hkz (bx:=nid b 0) (wb:=nid b 1) (w:=[40,103,101,116]) (by rw[Wg hs1 (by simp)];rfl) (by rw[Wm,hs1,AG,AG];simp) (fun j u hu=>?_) (by rw[Wg hs1 (by simp)];rfl) (by rw[Wm,hs1,AG,AG];simp) _ _ _ _ _ _ _ _ _ _ _ (fun y6 y16 v5 s' OB ho' hb'=>?_)
        · have hj3:j<3:=by
            rcases be j (Tm.sel d k).kids.length with h' | h'
            · have:=h';simp only[Tm.kids,bO,bT]at this;omega
            · rw[bh h']at hu;cases hu
          have hpk:part S (Tm.sel d k) j=(ix S u:Int):=by unfold part;rw[hu]
          have:j=0∨j=1∨j=2:=by omega
          rcases this with rfl | rfl | rfl<;>simp[hpk]
        · simp only[Qa,Qb,Qc,Qd,Qe,Qf,Qg,Qh,Qi,Qj,Qk,Ql,Qm,Qn,true_and,and_true,Qo,Qp,Qq,Qr,Qs,Qt,Qu,Qv,Qw,Qx,Qy,Qz,Ra,Rb,Rc,Rd,Re,Rf,Rg,Rh,Ri,Rj,Rk,Rl,Rm,Ya,Yb,Yc,Rn,Ro,Xv,Yd,Ye,Rq,Rs,Rt,Ru,Rw,Rx,Ry]
          rw[if_pos trivial]
          rcases hb'.row with⟨_,hz0,_⟩ | ⟨j,r,rfl,hjO,hjr,hh⟩
          · omega
          have hld:A1 (s'.heap.get j) 0 ((Tm.sel d k).kids.length+1)=some (Bc ([40,103,101,116]::(Tm.sel d k).kids.map Bn)):=by
            rw[hjr,Df hh (by simp[Bc]),bR,bw (by simp[Bc])]
          have hj:Gy s' [.slice (some (j,0)) ((Tm.sel d k).kids.length+1) none,.str [32]]=some (.str (CY ([40,103,101,116]::(Tm.sel d k).kids.map Bn) [32]),s'):=by
            have hst:∀l:List (List Nat),Gb (Bc l)=some l:=fun l=>by
              induction l with
              | nil=>rfl
              | cons x l ih=>show(Gb (Bc l)).bind _=_;rw[ih];rfl
            show(BG s' j 0 _).bind _=_
            rw[Co,hld,Option.bind_some,hst,Option.bind_some]
            have hle:(CY ([40,103,101,116]::(Tm.sel d k).kids.map Bn) [32]).length≤1000000:=by
              have:CY ([40,103,101,116]::(Tm.sel d k).kids.map Bn) [32]++[41]=Bn (Tm.sel d k):=by simp[CY,Bi,Tm.kids,Bn]
              have h2:=congrArg List.length this
              rw[bu]at h2
              omega
            rw[CM hle,CM (show(Tm.sel d k).kids.length+1≤1000000 by simp[Tm.kids])]
            rfl
          have hfin:CY ([40,103,101,116]::(Tm.sel d k).kids.map Bn) [32]++[41]=Bn (Tm.sel d k):=by simp[CY,Bi,Tm.kids,Bn]
          have hadl:(CY ([40,103,101,116]::(Tm.sel d k).kids.map Bn) [32]).length+[41].length≤1000000000:=by
            have h2:=congrArg List.length hfin
            rw[bu]at h2
            omega
          simp only[Mr,Qa,Qb,Qc,Qd,Qe,Qf,Qg,Qh,Qi,Qj,Qk,Ql,Qm,Qn,true_and,and_true,Qo,Qp,Qq,Qr,Qs,Qt,Qu,Qv,Qw,Qx,Qy,Qz,Ra,Rb,Rc,Rd,Re,Rf,Rg,Rh,Ri,Rj,Rk,Rl,Rm,Ya,Yb,Yc,Rn,Ro,Xv,Yd,Ye,Rq,Rs,Rt,Ru,Rw,Rx,Ry]
          refine WF.native (hE.tab _ _ _ _ (by rw[Jr];exact hj)) ?_
          simp only[Qa,Qb,Qc,Qd,Qe,Qf,Qg,Qh,Qi,Qj,Qk,Ql,Qm,Qn,true_and,and_true,Qo,Qp,Qq,Qr,Qs,Qt,Qu,Qv,Qw,Qx,Qy,Qz,Ra,Rb,Rc,Rd,Re,Rf,Rg,Rh,Ri,Rj,Rk,Rl,Rm,Ya,Yb,Yc,Rn,Ro,Xv,Yd,Ye,Rq,Rs,Rt,Ru,Rw,Rx,Ry,Ho hadl,hfin]
          exact hend _ ((hxo _).trans (ho'.mono (by rw[Wm,hs1,AG];omega)))
      | upd d k a =>
        simp only[Tm.kind,Tm.id,JV,JW,JX,LM,KS,Ml,Mm,Mn,Qa,Qb,Qc,Qd,Qe,Qf,Qg,Qh,Qi,Qj,Qk,Ql,Qm,Qn,true_and,and_true,Qo,Qp,Qq,Qr,Qs,Qt,Qu,Qv,Qw,Qx,Qy,Qz,Ra,Rb,Rc,Rd,Re,Rf,Rg,Rh,Ri,Rj,Rk,Rl,Rm,Ya,Yb,Yc,Rn,Ro,Xv,Yd,Ye,Rq,Rs,Rt,Ru,Rw,Rx,Ry,hs1,Gv,M5,Gu,Kd,C3,Rw,Int.reduceEq,Ez,Ta (ND (Tm.upd d k a)),AZ Tryz.underlying27,Rz,Wa,Wb,Wc,Wd,We,Wf,Wg,Wh,Wi,Wj,Wl,Wm,Wn,Wp,Wq,Wr,Ws,Wt,Wu,Wv,Ww,Wx,Wy,Wz,Xa,Xb,Xc,Xd,Xe,Xf,Xg,Xh,Xi,Xj,Xk,Xl,Xm,Xn,Xo,Xp,Xq,Xr,bO,bT,bS,bP,bU,bV,List.getElem?_cons_zero,List.getElem?_cons_succ,bR,bX,bW,bY,bN,Nat.reduceAdd,Nat.reduceLT,Nat.reduceLeDiff,decide_true,decide_false,Bool.true_and,Bool.and_true,bZ,bM,Option.some.injEq,Xs,Xt,Xu,Xv]
        have hkz:∀u∈(Tm.upd d k a).kids,CT u=Bn u∧∀ (s:AD) (K:AV→AD→Prop),AQ s p S O→By s O→(∀s',BD s.next s s'→K (.str (CT u)) s')→WF E 26 [.ptr (some (p,0)),iv (ix S u:Int)] K s:=fun u hu =>
          ⟨if_neg (by have:=Ss hu (by omega);omega),ihn u (by have:=(h.ok.kid ht hu).2;omega) (h.ok.kid ht hu).1⟩
        have hlen:=EM h.ok hT _ ht (by omega)
        refine KB hE (h1.old (AS (s:=s1))) (hg1.old (AS (s:=s1))) (by simp[Tm.kids]) (by simp[Tm.kids]) hkz (bx:=nid b 0) (wb:=nid b 1) (w:=[40,115,101,116]) (by rw[Wg hs1 (by simp)];rfl) (by rw[Wm,hs1,AG,AG];simp) (fun j u hu=>?_) (by rw[Wg hs1 (by simp)];rfl) (by rw[Wm,hs1,AG,AG];simp) _ _ _ _ _ _ _ _ _ _ _ (fun y6 y16 v5 s' OB ho' hb'=>?_)
        · have hj3:j<3:=by
            rcases be j (Tm.upd d k a).kids.length with h' | h'
            · have:=h';simp only[Tm.kids,bO,bT]at this;omega
            · rw[bh h']at hu;cases hu
          have hpk:part S (Tm.upd d k a) j=(ix S u:Int):=by unfold part;rw[hu]
          have:j=0∨j=1∨j=2:=by omega
          rcases this with rfl | rfl | rfl<;>simp[hpk]
        · simp only[Qa,Qb,Qc,Qd,Qe,Qf,Qg,Qh,Qi,Qj,Qk,Ql,Qm,Qn,true_and,and_true,Qo,Qp,Qq,Qr,Qs,Qt,Qu,Qv,Qw,Qx,Qy,Qz,Ra,Rb,Rc,Rd,Re,Rf,Rg,Rh,Ri,Rj,Rk,Rl,Rm,Ya,Yb,Yc,Rn,Ro,Xv,Yd,Ye,Rq,Rs,Rt,Ru,Rw,Rx,Ry]
          rw[if_pos trivial]
          rcases hb'.row with⟨_,hz0,_⟩ | ⟨j,r,rfl,hjO,hjr,hh⟩
          · omega
          have hld:A1 (s'.heap.get j) 0 ((Tm.upd d k a).kids.length+1)=some (Bc ([40,115,101,116]::(Tm.upd d k a).kids.map Bn)):=by
            rw[hjr,Df hh (by simp[Bc]),bR,bw (by simp[Bc])]
          have hj:Gy s' [.slice (some (j,0)) ((Tm.upd d k a).kids.length+1) none,.str [32]]=some (.str (CY ([40,115,101,116]::(Tm.upd d k a).kids.map Bn) [32]),s'):=by
            have hst:∀l:List (List Nat),Gb (Bc l)=some l:=fun l=>by
              induction l with
              | nil=>rfl
              | cons x l ih=>show(Gb (Bc l)).bind _=_;rw[ih];rfl
            show(BG s' j 0 _).bind _=_
            rw[Co,hld,Option.bind_some,hst,Option.bind_some]
            have hle:(CY ([40,115,101,116]::(Tm.upd d k a).kids.map Bn) [32]).length≤1000000:=by
              have:CY ([40,115,101,116]::(Tm.upd d k a).kids.map Bn) [32]++[41]=Bn (Tm.upd d k a):=by simp[CY,Bi,Tm.kids,Bn]
              have h2:=congrArg List.length this
              rw[bu]at h2
              omega
            rw[CM hle,CM (show(Tm.upd d k a).kids.length+1≤1000000 by simp[Tm.kids])]
            rfl
          have hfin:CY ([40,115,101,116]::(Tm.upd d k a).kids.map Bn) [32]++[41]=Bn (Tm.upd d k a):=by simp[CY,Bi,Tm.kids,Bn]
          have hadl:(CY ([40,115,101,116]::(Tm.upd d k a).kids.map Bn) [32]).length+[41].length≤1000000000:=by
            have h2:=congrArg List.length hfin
            rw[bu]at h2
            omega
          simp only[Mr,Qa,Qb,Qc,Qd,Qe,Qf,Qg,Qh,Qi,Qj,Qk,Ql,Qm,Qn,true_and,and_true,Qo,Qp,Qq,Qr,Qs,Qt,Qu,Qv,Qw,Qx,Qy,Qz,Ra,Rb,Rc,Rd,Re,Rf,Rg,Rh,Ri,Rj,Rk,Rl,Rm,Ya,Yb,Yc,Rn,Ro,Xv,Yd,Ye,Rq,Rs,Rt,Ru,Rw,Rx,Ry]
          refine WF.native (hE.tab _ _ _ _ (by rw[Jr];exact hj)) ?_
          simp only[Qa,Qb,Qc,Qd,Qe,Qf,Qg,Qh,Qi,Qj,Qk,Ql,Qm,Qn,true_and,and_true,Qo,Qp,Qq,Qr,Qs,Qt,Qu,Qv,Qw,Qx,Qy,Qz,Ra,Rb,Rc,Rd,Re,Rf,Rg,Rh,Ri,Rj,Rk,Rl,Rm,Ya,Yb,Yc,Rn,Ro,Xv,Yd,Ye,Rq,Rs,Rt,Ru,Rw,Rx,Ry,Ho hadl,hfin]
          exact hend _ ((hxo _).trans (ho'.mono (by rw[Wm,hs1,AG];omega)))
def UE:Tm→Nat
 | .con n=>n
 | _=>0
def enc(S:List Tm)(t:Tm):RP:=(t.kind,t.id,UE t,t.kids.map fun k=>(ix S k:Int))
theorem OO{S:List Tm}{t u:Tm}(ht:∀k∈t.kids,k∈S)(hu:∀k∈u.kids,k∈S)(h:enc S t=enc S u):t=u:=by
 have h1:t.kind=u.kind:=congrArg (fun x=>x.1) h
 have h2:t.id=u.id:=congrArg (fun x=>x.2.1) h
 have h3:UE t=UE u:=congrArg (fun x=>x.2.2.1) h
 have h4:(t.kids.map fun k=>(ix S k:Int))=u.kids.map fun k=>(ix S k:Int):=congrArg (fun x=>x.2.2.2) h
 have key:∀ {a b:Tm},a∈S→b∈S→(ix S a:Int)=(ix S b:Int)→a=b:=fun ha hb e=>Gx ha hb (by omega)
 cases t<;>cases u<;>simp only[Tm.kind]at h1<;>first | omega | skip
 ·simp only[Tm.id]at h2;rw[h2]
 ·simp only[Tm.id]at h2;rw[h2]
 ·simp only[UE]at h3;rw[h3]
 ·simp only[Tm.kids,bk,List.map_nil,List.cons.injEq,and_true]at h4
  rw[key (ht _ (by simp[Tm.kids])) (hu _ (by simp[Tm.kids])) h4.1,key (ht _ (by simp[Tm.kids])) (hu _ (by simp[Tm.kids])) h4.2]
 ·simp only[Tm.kids,bk,List.map_nil,List.cons.injEq,and_true]at h4
  rw[key (ht _ (by simp[Tm.kids])) (hu _ (by simp[Tm.kids])) h4.1,key (ht _ (by simp[Tm.kids])) (hu _ (by simp[Tm.kids])) h4.2.1,key (ht _ (by simp[Tm.kids])) (hu _ (by simp[Tm.kids])) h4.2.2]
theorem ON{S:List Tm}(x:List Tm){t:Tm}(ht:∀k∈t.kids,k∈S):enc (S++x) t=enc S t:=by
 unfold enc
 rw[cZ fun k hk=>by rw[FA x (ht k hk)]]
structure MZ(Tp:List RP)(S:List Tm):Prop where
 nd:S.Nodup
 cl:∀t∈S,∀k∈t.kids,k∈S
 eq:Tp=S.map (enc S)
theorem MZ.len{Tp:List RP}{S:List Tm}(h:MZ Tp S):Tp.length=S.length:=by rw[h.eq,bp]
theorem MZ.put  {Tp : List RP} {S : List Tm} (h : MZ  Tp S) {u : Tm} (hu : ∀ k ∈ u.kids, k ∈ S) : MZ  (GT    Tp (enc S u)) (push S u) ∧ (GT    Tp (enc S u)).idxOf (enc S u) = ix (push S u) u := by
  have hmem:enc S u∈Tp↔u∈S:=by
    rw[h.eq]
    constructor
    · intro hm
      obtain⟨t,ht,e⟩:=List.mem_map.1 hm
      rw[← OO (h.cl t ht) hu e];exact ht
    · intro hm;exact List.mem_map.2 ⟨u,hm,rfl⟩
  have hidx:∀ (l:List Tm),(∀t∈l,∀k∈t.kids,k∈S)→(l.map (enc S)).idxOf (enc S u)=l.idxOf u:=by
    intro l
    induction l with
    | nil=>intro _;rfl
    | cons t l ih =>
      intro hl
      rw[bk,cX,cX,ih fun t ht=>hl t (br _ ht)]
      have:(enc S t == enc S u)=(t == u):=by
        by_cases e:t=u
        · subst e;simp
        · have:enc S t≠enc S u:=fun e'=>e (OO (hl t bm) hu e')
          rw[beq_eq_false_iff_ne.2 this,beq_eq_false_iff_ne.2 e]
      rw[this]
  unfold GT push
  by_cases hm:u∈S
  · rw [if_pos (hmem.2 hm), if_pos hm]
    refine⟨h,?_⟩
    rw[h.eq];exact hidx S h.cl
  · rw[if_neg fun e=>hm (hmem.1 e),if_neg hm]
    have he:Tp++[enc S u]=(S++[u]).map (enc (S++[u])):=by
      rw[cK,h.eq,cZ fun t ht=>(ON [u] (h.cl t ht)).symm]
      simp only[bk,List.map_nil]
      rw[ON [u] hu]
    refine⟨⟨?_,?_,he⟩,?_⟩
    · exact List.nodup_append.2 ⟨h.nd,by simp,fun a ha b hb=>by rw[List.mem_singleton.1 hb];exact fun e=>hm (e▸ha)⟩
    · intro t ht k hk
      rcases List.mem_append.1 ht with ht | ht
      · exact b5 _ (h.cl t ht k hk)
      · rw[List.mem_singleton.1 ht]at hk;exact b5 _ (hu k hk)
    · rw[cW,if_neg fun e=>hm (hmem.1 e)]
      unfold ix
      rw[cW,if_neg hm,h.len];simp
theorem SS(S:List Tm):enc S Ae=(2,0,0,[]):=rfl
theorem MZ.there{Tp:List RP}{S0 S:List Tm}{n0:Nat}(h0:n0=S0.length)(hn:S0.Nodup)(hpre:∃y,S=S0++y)(h:MZ Tp S)(x:Int):
  MZ (Dt Tp (if (n0:Int)≤x then -1 else x)).1 (if FM n0 x then S else push S Ae)∧((Dt Tp (if (n0:Int)≤x then -1 else x)).2:Int)=(ix (if FM n0 x then S else push S Ae) (Ak S0 x):Int):=by
 have hlen:=h.len
 have hl0:n0≤S.length:=by obtain⟨y,rfl⟩:=hpre;rw[bu];omega
 by_cases hr:FM n0 x=true
 ·obtain⟨h1,h2⟩:=E9.1 hr
  rw[if_pos hr,if_neg (show ¬ ((n0:Int)≤x) by omega)]
  have ht:Dt Tp x=(Tp,x.toNat):=if_neg (by omega)
  rw[ht]
  refine⟨h,?_⟩
  have hr':FM S0.length x=true:=by rw[← h0];exact hr
  have:=((show QP S0 x (Ak S0 x)from⟨hr',rfl⟩).ext hpre).ix h.nd
  omega
 ·have hnr:¬ (0≤x∧x<(n0:Int)):=fun h'=>hr (E9.2 h')
  rw[if_neg hr]
  have ht:Dt Tp (if (n0:Int)≤x then -1 else x)=EQ Tp (2,0,0,[]):=by
   refine if_pos ?_
   split
   ·exact .inl (by omega)
   ·exact .inl (by omega)
  have htm:Ak S0 x=Ae:=by
   unfold Ak
   rw[← h0,if_neg hr]
  rw[ht,htm]
  have:=h.put (u:=Ae) (fun k hk=>by cases hk)
  rw[SS]at this
  exact⟨this.1,by show((EQ Tp (2,0,0,[])).2:Int)=_;unfold EQ;rw[this.2]⟩
theorem I0{α:Type}{P:List α→Prop}(h0:P [])(h1:∀l x,P l→P (l++[x]))(l:List α):P l:=by
 rw[← List.reverse_reverse l]
 induction l.reverse with
 | nil=>exact h0
 | cons x m ih=>rw[List.reverse_cons];exact h1 _ _ ih
theorem MU{n:Nat}{S:List Tm}:∀ (l:List Int)(x:Int),Ct n S (l++[x])=if FM n x then Ct n S l else push (Ct n S l) Ae
 | [],x=>by
  show Ct n S [x]=_
  unfold Ct
  split<;>rfl
 | y::l,x=>by
  show Ct n S (y::(l++[x]))=_
  unfold Ct
  split
  ·exact MU l x
  ·rw[CS,CS]
   split
   ·rfl
   ·rw[G3]
theorem MZ.parts{Tp:List RP}{S:List Tm}(h:MZ Tp S):∀ (l:List Int),MZ (BP S.length Tp l).1 (Ct S.length S l)∧(BP S.length Tp l).2=l.map fun x=>(ix (Ct S.length S l) (Ak S x):Int):=by
 intro l
 induction l using I0 with
 | h0=>exact⟨h,rfl⟩
 | h1 l x ih =>
  obtain⟨h1,h2⟩:=ih
  have h3:=h1.there (n0:=S.length) rfl h.nd K9 x
  rw[HZ,MU]
  refine⟨h3.1,?_⟩
  show(BP S.length Tp l).2++[_]=_
  rw[h2,cK,h3.2]
  congr 1
  refine cZ fun y hy=>?_
  have hm:Ak S y∈Ct S.length S l:=E4 rfl y hy
  split
  ·rfl
  ·rw[Kl hm]
theorem MZ.doo{Tp:List RP}{S:List Tm}(h:MZ Tp S){o:DZ}(ho:o.ok):MZ (OJ Tp o).1 (Hm S o):=by
  obtain⟨kind,id,n,a,b,c⟩:=o
  have hk:kind=0∨kind=1∨kind=2∨kind=3∨kind=4:=ho.1
  have hlen:=h.len
  rcases hk with rfl | rfl | rfl | rfl | rfl
  · exact(h.put (u:=.var id) (fun k hk=>by cases hk)).1
  · exact(h.put (u:=.bnd (max id 0)) (fun k hk=>by cases hk)).1
  · exact(h.put (u:=.con n) (fun k hk=>by cases hk)).1
  · have h1 := h.parts [a, b]
    have h2:=h1.1.put (u:=.sel (Ak S a) (Ak S b)) (fun k hk=>by simp only[Tm.kids,bv,b4,or_false]at hk;rcases hk with rfl | rfl<;>exact E4 rfl _ (by simp))
    have he:enc (Ct S.length S [a,b]) (.sel (Ak S a) (Ak S b))=(3,0,0,(BP Tp.length Tp [a,b]).2):=by rw[hlen,h1.2];rfl
    rw[he]at h2
    have:=h2.1
    rw[← hlen]at this
    simpa[OJ,Hm,QL,IK,EQ,hlen]using this
  · have h1 := h.parts [a, b, c]
    have h2:=h1.1.put (u:=.upd (Ak S a) (Ak S b) (Ak S c)) (fun k hk=>by simp only[Tm.kids,bv,b4,or_false]at hk;rcases hk with rfl | rfl | rfl<;>exact E4 rfl _ (by simp))
    have he:enc (Ct S.length S [a,b,c]) (.upd (Ak S a) (Ak S b) (Ak S c))=(4,0,0,(BP Tp.length Tp [a,b,c]).2):=by rw[hlen,h1.2];rfl
    rw[he]at h2
    have:=h2.1
    rw[← hlen]at this
    simpa[OJ,Hm,QL,IK,EQ,hlen]using this
theorem Io(Tp:List RP)(n:Nat):Bb Tp n=0∨FM Tp.length (Bb Tp n)=true:=by
  have key:∀ (t:Nat),t<Tp.length→∀d:Int,d=(if 8<HM Tp Tp.length t then (0:Int)else (t:Int))→d=0∨FM Tp.length d=true:=by
    intro t ht d hd
    by_cases h:8<HM Tp Tp.length t
    · rw[if_pos h]at hd;exact .inl hd
    · rw[if_neg h]at hd;exact .inr (E9.2 (by omega))
  by_cases h0:Tp.length=0
  · exact .inl (if_pos h0)
  · by_cases hg : 128 ≤ (n : Int)
    · exact key (Tp.length - 1 - n % min Tp.length 6) (by omega) _ (by unfold Bb;rw[if_neg h0,if_pos hg])
    · exact key (n % Tp.length) (cB n (by omega)) _ (by unfold Bb;rw[if_neg h0,if_neg hg])
def ZL(S:List Tm)(o:DZ):Prop:=∀x∈[o.a,o.b,o.c],FM S.length x=true
theorem OK{S:List Tm}{o:DZ}:∃y,Hm S o=S++y:=by
  unfold Hm
  refine D2 ?_ Is
  unfold QL
  split
  · exact K9
  · split
    · exact K9
    · exact⟨[],by simp⟩
theorem OL{S:List Tm}{o:DZ}:IK S o∈Hm S o:=GP
theorem aT   {S S' : List Tm} {o : DZ}  (ho : o.ok) (hS : ∃ y, S' = Hm  S o ++ y) (hf : ZL   S o ∨ (S = [] ∧ o.a = 0 ∧ o.b = 0 ∧ o.c = 0)) : IK  S' o = IK  S o ∧ Hm  S' o = S' := by
  have hpre:∃y,S'=S++y:=D2 OK hS
  have hmemS:IK S o∈S':=by obtain⟨y,rfl⟩:=hS;exact b5 _ OL
  have hk:o.kind=0∨o.kind=1∨o.kind=2∨o.kind=3∨o.kind=4:=ho.1
  have hat:(o.kind=3∨o.kind=4)→∀x∈[o.a,o.b,o.c],(o.kind=3→x≠o.c∨x=o.a∨x=o.b)→FM S'.length x=true∧Ak S' x=Ak S x:=by
    intro hk34 x hx _
    rcases hf with hf | ⟨rfl,h1,h2,h3⟩
    · have:=(show QP S x (Ak S x)from⟨hf x hx,rfl⟩).ext hpre
      exact this
    · have hx0:x=0:=by
        simp only[bv,b4,or_false]at hx
        rcases hx with rfl | rfl | rfl<;>assumption
      subst hx0
      have h0:Ak [] (0:Int)=Ae:=rfl
      have hd:∃y,Hm [] o=[Ae]++y:=by
        unfold Hm
        refine D2 ?_ Is
        unfold QL
        rcases hk34 with h | h
        · rw[if_pos h,h1,h2];exact⟨[],rfl⟩
        · rw[if_neg (by omega),if_pos h,h1,h2,h3];exact⟨[],rfl⟩
      rw[h0]
      exact(MW (S:=[Ae]) (k:=0) rfl).ext (D2 hd hS)
  have hT:IK S' o=IK S o:=by
    unfold IK
    rcases hk with h | h | h | h | h
    · simp[h]
    · simp[h]
    · simp[h]
    · have ha := (hat (.inl h) o.a (by simp) (fun _ => .inr (.inl rfl))).2
      have hb:=(hat (.inl h) o.b (by simp) (fun _=>.inr (.inr rfl))).2
      simp[h,ha,hb]
    · have ha := (hat (.inr h) o.a (by simp) (fun e => by omega)).2
      have hb:=(hat (.inr h) o.b (by simp) (fun e=>by omega)).2
      have hc:=(hat (.inr h) o.c (by simp) (fun e=>by omega)).2
      simp[h,ha,hb,hc]
  refine⟨hT,?_⟩
  have hR:QL S' o=S':=by
    unfold QL
    rcases hk with h | h | h | h | h
    · simp[h]
    · simp[h]
    · simp[h]
    · rw[if_pos h]
      exact I6 fun x hx=>by
        simp only[bv,b4,or_false]at hx
        rcases hx with rfl | rfl
        · exact(hat (.inl h) o.a (by simp) (fun _=>.inr (.inl rfl))).1
        · exact(hat (.inl h) o.b (by simp) (fun _=>.inr (.inr rfl))).1
    · rw[if_neg (by omega),if_pos h]
      exact I6 fun x hx=>(hat (.inr h) x hx (fun e=>by omega)).1
  unfold Hm
  rw[hR,hT]
  exact if_pos hmemS
theorem Pf        (l : List Hk)  : MZ  (BK    l).1 (Cr    (BK    l).2) ∧ ∀ o ∈ (BK    l).2, (o.ok ∧ -2 ≤ o.id ∧ o.id ≤ 4) ∧ ∃ S0, (∃ y, Cr    (BK    l).2 = Hm  S0 o ++ y) ∧ (ZL   S0 o ∨ (S0 = [] ∧ o.a = 0 ∧ o.b = 0 ∧ o.c = 0)) := by
  induction l using I0 with
  | h0=>exact⟨⟨List.nodup_nil,fun t ht=>absurd ht (by simp[Cr,BK]),rfl⟩,fun o ho=>absurd ho (by simp[BK])⟩
  | h1 l m ih =>
    obtain⟨h1,h2⟩:=ih
    rw[Ih]
    obtain⟨o,hoe⟩:∃o,o=Tt (BK l).1 m.1 m.2.1 m.2.2.1 m.2.2.2:=⟨_,rfl⟩
    rw[← hoe]
    have ho:o.ok:=hoe▸(NP _ _ _ _ _).1
    have hds:Cr ((BK l).2++[o])=Hm (Cr (BK l).2) o:=Fg _ _
    show MZ (OJ (BK l).1 o).1 (Cr ((BK l).2++[o]))∧_
    rw[hds]
    refine⟨h1.doo ho,fun o' ho'=>?_⟩
    rcases List.mem_append.1 ho' with h' | h'
    · obtain⟨k1,S0,k2,k3⟩:=h2 o' h'
      exact⟨k1,S0,D2 k2 OK,k3⟩
    · rw[List.mem_singleton.1 h']
      have hid:-2≤o.id∧o.id≤4:=by
        rw[hoe]
        show -2≤LD m.1 m.2.1∧LD m.1 m.2.1≤4
        have h5:=cB m.2.1 (show 0<5 by omega)
        have h7:=cB m.2.1 (show 0<7 by omega)
        unfold LD
        split<;>omega
      refine⟨⟨ho,hid⟩,Cr (BK l).2,⟨[],by simp⟩,?_⟩
      have hlen:=h1.len
      have ha:=Io (BK l).1 m.2.1
      have hb:=Io (BK l).1 m.2.2.1
      have hc:=Io (BK l).1 m.2.2.2
      have e1:o.a=Bb (BK l).1 m.2.1:=by rw[hoe];rfl
      have e2:o.b=Bb (BK l).1 m.2.2.1:=by rw[hoe];rfl
      have e3:o.c=Bb (BK l).1 m.2.2.2:=by rw[hoe];rfl
      rcases cD (BK l).1.length with hz | hz
      · refine .inr ⟨cQ                            (by omega), ?_, ?_, ?_⟩
        · rw[e1];exact if_pos hz
        · rw[e2];exact if_pos hz
        · rw[e3];exact if_pos hz
      · have key:∀x,(x=0∨FM (BK l).1.length x=true)→FM (Cr (BK l).2).length x=true:=fun x hx=>by
          rw[← hlen]
          rcases hx with rfl | hx
          · exact E9.2 (by omega)
          · exact hx
        refine .inl fun x hx=>?_
        simp only[bv,b4,or_false]at hx
        rcases hx with rfl | rfl | rfl
        · exact key _ (e1▸ha)
        · exact key _ (e2▸hb)
        · exact key _ (e3▸hc)
set_option maxRecDepth 20000 in
theorem Pu{E:Bl}(hE:Ai E){p:Nat}{S:List Tm}(hS9:S.length≤80){ops:List DZ}(hok:∀o∈ops,o.ok∧Hm S o=S∧IK S o∈S){sB:AD}{OA:List Nat}{vo:AV}{OB:List Nat}(hb:D6 46 12 sB vo ops.length (ops.flatMap DZ.cells) OB)(hOB:∀j∈OB,j ∉ OA)
  (a0 a1 a5 a8 a9 a10 a11 a12 a13 a16 a17 a18 a19 a20 a21 a22 a23 a24 a25 a26 a27:AV) (hl40:ops.length≤40) {Q:Au→Prop} {marks:List Nat}
  (hend:∀ (y7 y14 y15:AV) s' O',AQ s' p S O'→By s' O'→AT 0 Q ⟨.exit 0,[a0,a1,vo,.ptr (some (p,0)),iv (S.length:Int),a5,iv (ops.length:Int),y7,a8,a9,a10,a11,a12,a13,y14,y15,a16,a17,a18,a19,a20,a21,a22,a23,a24,a25,a26,a27],marks,s'⟩):
  ∀ (d k:Nat) s1 O (a7 a14 a15:AV),d+k=ops.length→AQ s1 p S O→By s1 O→DG OA sB s1→Aj OA O sB →
   WC E none (AU.loop LP) (AT 0 Q) [a0,a1,vo,.ptr (some (p,0)),iv (S.length:Int),a5,iv (k:Int),a7,a8,a9,a10,a11,a12,a13,a14,a15,a16,a17,a18,a19,a20,a21,a22,a23,a24,a25,a26,a27] marks s1:=by
 intro d
 induction d with
 | zero =>
  intro k s1 O a7 a14 a15 hd h hg hf hgr
  have hk:k=ops.length:=by omega
  subst hk
  obtain⟨a,c,rfl,_⟩:=hb.slice
  refine WC.loop' ?_
  have hlt:¬ ((ops.length:Int)<(ops.length:Int)):=by omega
  simp only[LP,X6,Qa,Qb,Qc,Qd,Qe,Qf,Qg,Qh,Qi,Qj,Qk,Ql,Qm,Qn,true_and,and_true,Qo,Qp,Qq,Qr,Qs,Qt,Qu,Qv,Qw,Qx,Qy,Qz,Ra,Rb,Rc,Rd,Re,Rf,Rg,Rh,Ri,Rj,Rk,Rl,Rm,Ya,Yb,Yc,Rn,Ro,Xv,Yd,Ye,Rq,Rs,Rt,Ru,Rw,Rx,Ry,AZ Tryz.underlying36,Rq,hlt,decide_false]
  exact hend _ _ _ s1 O h hg
 | succ d ih =>
  intro k s1 O a7 a14 a15 hd h hg hf hgr
  have hkl:k<ops.length:=by omega
  obtain⟨o,hko⟩:∃o,ops[k]? = some o:=⟨_,bc hkl⟩
  obtain⟨ho,hS,hmem⟩:=hok o (bn hko)
  have hlt:(k:Int)<(ops.length:Int):=by omega
  have hadd:i64 ((k:Int)+1):=by unfold i64;omega
  obtain⟨hat,hle⟩:=NQ (fun o ho=>(hok o ho).1) hko
  have hblt:=hb.lt
  rcases hb.row with⟨_,hz,_⟩ | ⟨j,r,rfl,hjO,hjr,hh⟩
  ·omega
  have hln:A1 (s1.heap.get j) (k * 12) 12=some o.cells:=by rw[hf.2 j (hblt j hjO) (hOB j hjO),hjr,Df hh hle,hat]
  have hdo:=fun K hK=>XW (K:=K) hE h hg (by omega) ho hK
  refine WC.loop' ?_
  obtain⟨W,hW⟩:∃W,W=AU.loop LP:=⟨_,rfl⟩
  rw[← hW]
  simp only[LP,X6,Zo,Qa,Qb,Qc,Qd,Qe,Qf,Qg,Qh,Qi,Qj,Qk,Ql,Qm,Qn,true_and,and_true,Qo,Qp,Qq,Qr,Qs,Qt,Qu,Qv,Qw,Qx,Qy,Qz,Ra,Rb,Rc,Rd,Re,Rf,Rg,Rh,Ri,Rj,Rk,Rl,Rm,Ya,Yb,Yc,Rn,Ro,Xv,Yd,Ye,Rq,Rs,Rt,Ru,Rw,Rx,Ry,AZ Tryz.underlying36,Rq,hlt,decide_true,Ac Tryz.underlying36 ER hkl,Ff,ER,hln,Rz,Wa,Wb,Wc,Wd,We,Wf,Wg,Wh,Wi,Wj,Wl,Wm,Wn,Wp,Wq,Wr,Ws,Wt,Wu,Wv,Ww,Wx,Wy,Wz,Xa,Xb,Xc,Xd,Xe,Xf,Xg,Xh,Xi,Xj,Xk,Xl,Xm,Xn,Xo,Xp,Xq,Xr,bO,bT,bS,bP,bU,bV,List.getElem?_cons_zero,List.getElem?_cons_succ,bR,bX,bW,bY,bN,Nat.reduceAdd,Nat.reduceLT,Nat.reduceLeDiff,decide_true,decide_false,Bool.true_and,Bool.and_true,bZ,bM,Option.some.injEq,Xs,Xt,Xu,Xv]
  refine hdo _ fun s2 O2 g1 g2 g3 g4=>?_
  rw[hS]at g1 ⊢
  have hix:=GJ hmem
  have e1:decide ((ix S (IK S o):Int)<0)=false:=decide_eq_false (by omega)
  have e2:decide ((S.length:Int)≤(ix S (IK S o):Int))=false:=decide_eq_false (by omega)
  have:=ih (k+1) s2 O2 (iv (ix S (IK S o):Int)) (.bool true) (.bool false) (by omega) g1 g2 (hf.trans g3 hgr) (hgr.trans g4 hf.1)
  rw[← hW,show((k+1:Nat):Int)=(k:Int)+1 from by omega]at this
  simp only[Qa,Qb,Qc,Qd,Qe,Qf,Qg,Qh,Qi,Qj,Qk,Ql,Qm,Qn,true_and,and_true,Qo,Qp,Qq,Qr,Qs,Qt,Qu,Qv,Qw,Qx,Qy,Qz,Ra,Rb,Rc,Rd,Re,Rf,Rg,Rh,Ri,Rj,Rk,Rl,Rm,Ya,Yb,Yc,Rn,Ro,Xv,Yd,Ye,Rq,Rs,Rt,Ru,Rw,Rx,Ry,WD,Rq,Ru,e1,e2,WE,A9 _ _ _ _ hadd]
  exact this
set_option maxRecDepth 20000 in
theorem Pa{E:Bl}{s:AD}{ks:List Int}{v9:AV}(h9:A0 s v9 ks)(h3:ks.length≤3){t:Nat}(hlow:∀x∈ks,0≤x∧x<(t:Int))
  (a0 a1 a2 a3 a4 a5 a6 a7 a11 a12 a13 a14 a15 a16 a19 a20 a21 a22 a23 a24 a25 a26 a27:AV) {Q:Au→Prop} {marks:List Nat}
  (hend:∀ (y17 y18:AV),AT 4 Q ⟨.exit 4,[a0,a1,a2,a3,a4,a5,a6,a7,iv (t:Int),v9,iv (ks.length:Int),a11,a12,a13,a14,a15,a16,y17,y18,a19,a20,a21,a22,a23,a24,a25,a26,a27],marks,s⟩):
  ∀ (d k:Nat) (a17 a18:AV),d+k=ks.length →
   WC E none (AU.loop LQ) (AT 4 Q) [a0,a1,a2,a3,a4,a5,a6,a7,iv (t:Int),v9,iv (k:Int),a11,a12,a13,a14,a15,a16,a17,a18,a19,a20,a21,a22,a23,a24,a25,a26,a27] marks s:=by
 intro d
 have hlen:=h9.len
 induction d with
 | zero =>
  intro k a17 a18 hd
  have hk:k=ks.length:=by omega
  subst hk
  refine WC.loop' ?_
  have hlt:¬ ((ks.length:Int)<(ks.length:Int)):=by omega
  simp only[LQ,RX,Qa,Qb,Qc,Qd,Qe,Qf,Qg,Qh,Qi,Qj,Qk,Ql,Qm,Qn,true_and,and_true,Qo,Qp,Qq,Qr,Qs,Qt,Qu,Qv,Qw,Qx,Qy,Qz,Ra,Rb,Rc,Rd,Re,Rf,Rg,Rh,Ri,Rj,Rk,Rl,Rm,Ya,Yb,Yc,Rn,Ro,Xv,Yd,Ye,Rq,Rs,Rt,Ru,Rw,Rx,Ry,hlen,Rq,hlt,decide_false]
  exact hend _ _
 | succ d ih =>
  intro k a17 a18 hd
  have hkl:k<ks.length:=by omega
  have hlt:(k:Int)<(ks.length:Int):=by omega
  have hadd:i64 ((k:Int)+1):=by unfold i64;omega
  obtain⟨x,hx⟩:∃x,ks[k]? = some x:=⟨_,bc hkl⟩
  have hxl:=hlow x (bn hx)
  have e1:decide (x<0)=false:=decide_eq_false (by omega)
  have e2:decide ((t:Int)≤x)=false:=decide_eq_false (by omega)
  obtain⟨j4,q4,c4,hv4,hj4,hl4⟩:=h9.at hx
  refine WC.loop' ?_
  obtain⟨W,hW⟩:∃W,W=AU.loop LQ:=⟨_,rfl⟩
  rw[← hW]
  rw[hv4]at ih hlen hend ⊢
  have:=ih (k+1) (.bool true) (.bool false) (by omega)
  rw[← hW,show((k+1:Nat):Int)=(k:Int)+1 from by omega]at this
  simp only[LQ,RX,WK,Qa,Qb,Qc,Qd,Qe,Qf,Qg,Qh,Qi,Qj,Qk,Ql,Qm,Qn,true_and,and_true,Qo,Qp,Qq,Qr,Qs,Qt,Qu,Qv,Qw,Qx,Qy,Qz,Ra,Rb,Rc,Rd,Re,Rf,Rg,Rh,Ri,Rj,Rk,Rl,Rm,Ya,Yb,Yc,Rn,Ro,Xv,Yd,Ye,Rq,Rs,Rt,Ru,Rw,Rx,Ry,hlen,Rq,Ru,hlt,decide_true,Ac Tryz.underlying27 Fy hkl,C3,hl4,b0,e1,e2,WL,A9 _ _ _ _ hadd,Rz,Wa,Wb,Wc,Wd,We,Wf,Wg,Wh,Wi,Wj,Wl,Wm,Wn,Wp,Wq,Wr,Ws,Wt,Wu,Wv,Ww,Wx,Wy,Wz,Xa,Xb,Xc,Xd,Xe,Xf,Xg,Xh,Xi,Xj,Xk,Xl,Xm,Xn,Xo,Xp,Xq,Xr,bO,bT,bS,bP,bU,bV,List.getElem?_cons_zero,List.getElem?_cons_succ,bR,bX,bW,bY,bN,Nat.reduceAdd,Nat.reduceLT,Nat.reduceLeDiff,decide_true,decide_false,Bool.true_and,Bool.and_true,bZ,bM,Option.some.injEq,Xs,Xt,Xu,Xv]
  exact this
theorem UL(x y:List Nat):AO Tryz.prog .eql 9 (.str x) (.str y)=some (.bool (BX x y)):=rfl
theorem UJ(x:List Nat):LC (.str x) (.str x)=true:=by simp[LC,Nk]
set_option maxRecDepth 20000 in
theorem Nl         {E : Bl}  (hE : Ai    E) {p : Nat} {S : List Tm} (hS9 : S.length ≤ 80) (hT : Told S) {t : Nat} {T : Tm} (ht : S[t]? = some T) {sB : AD}  {O : List Nat} (h : AQ      sB p S O) (hg : By   sB O) {v5 : AV} {OB : List Nat} (hb : D6  9 1 sB v5 t (Bc    ((S.take t).map CT))   OB)
    (a0 a1 a2 a4 a6 a7 a9 a10 a11 a13 a14 a15 a16 a17 a18 a19 a20 a21 a22 a23 a24 a25:AV) {Q:Au→Prop} {marks:List Nat}
    (hend:∀ (y26 y27:AV) s',BD sB.next sB s'→AT 7 Q ⟨.exit 7,[a0,a1,a2,.ptr (some (p,0)),a4,v5,a6,a7,iv (t:Int),a9,a10,a11,iv (t:Int),a13,a14,a15,a16,a17,a18,a19,a20,a21,a22,a23,a24,a25,y26,y27],marks,s'⟩):
    ∀ (d k:Nat) s1 (a26 a27:AV),d+k=t→BD sB.next sB s1 →
      WC E none (AU.loop Jc) (AT 7 Q) [a0,a1,a2,.ptr (some (p,0)),a4,v5,a6,a7,iv (t:Int),a9,a10,a11,iv (k:Int),a13,a14,a15,a16,a17,a18,a19,a20,a21,a22,a23,a24,a25,a26,a27] marks s1:=by
  have htl:t<S.length:=by
    rcases be t S.length with h' | h'
    · exact h'
    · rw[bh h']at ht;cases ht
  have hTm:=bn ht
  have hixt:ix S T=t:=Ll h.ok.nd ht
  intro d
  induction d with
  | zero =>
    intro k s1 a26 a27 hd ho
    have hk:k=t:=by omega
    subst hk
    refine WC.loop' ?_
    have hlt:¬ ((k:Int)<(k:Int)):=by omega
    simp only[Jc,R0,Qa,Qb,Qc,Qd,Qe,Qf,Qg,Qh,Qi,Qj,Qk,Ql,Qm,Qn,true_and,and_true,Qo,Qp,Qq,Qr,Qs,Qt,Qu,Qv,Qw,Qx,Qy,Qz,Ra,Rb,Rc,Rd,Re,Rf,Rg,Rh,Ri,Rj,Rk,Rl,Rm,Ya,Yb,Yc,Rn,Ro,Xv,Yd,Ye,Rq,Rs,Rt,Ru,Rw,Rx,Ry,Rq,hlt,decide_false]
    exact hend _ _ s1 ho
  | succ d ih =>
    intro k s1 a26 a27 hd ho
    have hkt:k<t:=by omega
    have hlt:(k:Int)<(t:Int):=by omega
    have hadd:i64 ((k:Int)+1):=by unfold i64;omega
    obtain⟨u,hu⟩:∃u,S[k]? = some u:=⟨_,bc (by omega)⟩
    have hne:u≠T:=fun e=>by
      have:=Ll h.ok.nd hu
      rw[e,hixt]at this;omega
    have hcs:(Bc ((S.take t).map CT))[k]? = some (.str (CT u)):=by
      unfold Bc
      rw[b3,b3,cO hkt,hu];rfl
    rcases hb.row with⟨_,hz,_⟩ | ⟨j,r,rfl,hjO,hjr,hh⟩
    · omega
    have hjl:=hb.lt j hjO
    have hld:∀s',BD sB.next sB s'→Cz (s'.heap.get j) k=some (.str (CT u)):=fun s' h'=>by rw[h'.2 j hjl,hjr];exact Sj hh hcs
    have hidx:AH Tryz.prog 39 (.slice (some (j,0)) t none) (iv (k:Int))=some (.ptr (some (j,k))):=by
      have:=Ac (P:=Tryz.prog) (i:=j) (o:=0) (cap:=none) Tryz.underlying39 aY hkt
      rwa[b0,bN]at this
    have hsize:=fun s1 (ho:BD sB.next sB s1) (K:AV→AD→Prop)=>Ul (K:=K) hE (h.old ho) hTm
    rw[hixt]at hsize
    refine WC.loop' ?_
    obtain⟨W,hW⟩:∃W,W=AU.loop Jc:=⟨_,rfl⟩
    rw[← hW]
    simp only[Jc,R0,WW,Qa,Qb,Qc,Qd,Qe,Qf,Qg,Qh,Qi,Qj,Qk,Ql,Qm,Qn,true_and,and_true,Qo,Qp,Qq,Qr,Qs,Qt,Qu,Qv,Qw,Qx,Qy,Qz,Ra,Rb,Rc,Rd,Re,Rf,Rg,Rh,Ri,Rj,Rk,Rl,Rm,Ya,Yb,Yc,Rn,Ro,Xv,Yd,Ye,Rq,Rs,Rt,Ru,Rw,Rx,Ry,Rq,hlt,decide_true]
    refine hsize s1 ho _ fun s2 ho2=>?_
    have ho12:=ho.trans (ho2.mono ho.1)
    by_cases hs:T.sz≤4096
    · have Ma  : decide ((T.sz : Int) ≤ 4096) = true := decide_eq_true (by omega)
      have htext:=Ov (p:=p) (O:=O) hE hT (t+1) T (by omega) hTm
      rw[hixt]at htext
      simp only[Qa,Qb,Qc,Qd,Qe,Qf,Qg,Qh,Qi,Qj,Qk,Ql,Qm,Qn,true_and,and_true,Qo,Qp,Qq,Qr,Qs,Qt,Qu,Qv,Qw,Qx,Qy,Qz,Ra,Rb,Rc,Rd,Re,Rf,Rg,Rh,Ri,Rj,Rk,Rl,Rm,Ya,Yb,Yc,Rn,Ro,Xv,Yd,Ye,Rq,Rs,Rt,Ru,Rw,Rx,Ry,Rt,Ma,hidx,aK,hld s2 ho12,Rz,Wa,Wb,Wc,Wd,We,Wf,Wg,Wh,Wi,Wj,Wl,Wm,Wn,Wp,Wq,Wr,Ws,Wt,Wu,Wv,Ww,Wx,Wy,Wz,Xa,Xb,Xc,Xd,Xe,Xf,Xg,Xh,Xi,Xj,Xk,Xl,Xm,Xn,Xo,Xp,Xq,Xr,bO,bT,bS,bP,bU,bV,List.getElem?_cons_zero,List.getElem?_cons_succ,bR,bX,bW,bY,bN,Nat.reduceAdd,Nat.reduceLT,Nat.reduceLeDiff,decide_true,decide_false,Bool.true_and,Bool.and_true,bZ,bM,Option.some.injEq,Xs,Xt,Xu,Xv]
      refine htext s2 _ (h.old ho12) (hg.old ho12) fun s3 ho3=>?_
      have ho13:=ho12.trans (ho3.mono ho12.1)
      have hne2:BX (CT u) (CT T)=false:=by
        cases hh2:BX (CT u) (CT T)with
        | false=>rfl
        | true=>exact absurd (D5.1 hh2) (Us (EC h.ok hT T hTm) (EC h.ok hT u (bn hu)) hs hne)
      have:=ih (k+1) s3 (.bool true) (.bool false) (by omega) ho13
      rw[← hW,show((k+1:Nat):Int)=(k:Int)+1 from by omega]at this
      refine⟨⟨BF ?_ (UJ _),trivial⟩,?_⟩
      · simp only[Qa,Qb,Qc,Qd,Qe,Qf,Qg,Qh,Qi,Qj,Qk,Ql,Qm,Qn,true_and,and_true,Qo,Qp,Qq,Qr,Qs,Qt,Qu,Qv,Qw,Qx,Qy,Qz,Ra,Rb,Rc,Rd,Re,Rf,Rg,Rh,Ri,Rj,Rk,Rl,Rm,Ya,Yb,Yc,Rn,Ro,Xv,Yd,Ye,Rq,Rs,Rt,Ru,Rw,Rx,Ry,aK,hld s3 ho13,Rz,Wa,Wb,Wc,Wd,We,Wf,Wg,Wh,Wi,Wj,Wl,Wm,Wn,Wp,Wq,Wr,Ws,Wt,Wu,Wv,Ww,Wx,Wy,Wz,Xa,Xb,Xc,Xd,Xe,Xf,Xg,Xh,Xi,Xj,Xk,Xl,Xm,Xn,Xo,Xp,Xq,Xr,bO,bT,bS,bP,bU,bV,List.getElem?_cons_zero,List.getElem?_cons_succ,bR,bX,bW,bY,bN,Nat.reduceAdd,Nat.reduceLT,Nat.reduceLeDiff,decide_true,decide_false,Bool.true_and,Bool.and_true,bZ,bM,Option.some.injEq,Xs,Xt,Xu,Xv]
      simp only[Qa,Qb,Qc,Qd,Qe,Qf,Qg,Qh,Qi,Qj,Qk,Ql,Qm,Qn,true_and,and_true,Qo,Qp,Qq,Qr,Qs,Qt,Qu,Qv,Qw,Qx,Qy,Qz,Ra,Rb,Rc,Rd,Re,Rf,Rg,Rh,Ri,Rj,Rk,Rl,Rm,Ya,Yb,Yc,Rn,Ro,Xv,Yd,Ye,Rq,Rs,Rt,Ru,Rw,Rx,Ry,UL,hne2,R3,A9 _ _ _ _ hadd]
      exact this
    · have Ma  : decide ((T.sz : Int) ≤ 4096) = false := decide_eq_false (by omega)
      have:=ih (k+1) s2 (.bool true) (.bool false) (by omega) ho12
      rw[← hW,show((k+1:Nat):Int)=(k:Int)+1 from by omega]at this
      simp only[Qa,Qb,Qc,Qd,Qe,Qf,Qg,Qh,Qi,Qj,Qk,Ql,Qm,Qn,true_and,and_true,Qo,Qp,Qq,Qr,Qs,Qt,Qu,Qv,Qw,Qx,Qy,Qz,Ra,Rb,Rc,Rd,Re,Rf,Rg,Rh,Ri,Rj,Rk,Rl,Rm,Ya,Yb,Yc,Rn,Ro,Xv,Yd,Ye,Rq,Rs,Rt,Ru,Rw,Rx,Ry,Rt,Ma,R3,A9 _ _ _ _ hadd]
      exact this
set_option maxRecDepth 20000 in
theorem Pp        {E : Bl}  (hE : Ai    E) {p : Nat} {S : List Tm} (hS9 : S.length ≤ 80) (hT : Told S) (hSk : JA  S)
    (a0 a1 a2 a6 a7 a13 a14 a15:AV) {Q:Au→Prop} {marks:List Nat}
    (hend:∀ (v5 y9 y10 y11 y12 y16 y17 y18 y19 y20 y21 y22 y23 y24 y25 y26 y27:AV) s' O',AQ s' p S O'→AT 2 Q ⟨.exit 2,[a0,a1,a2,.ptr (some (p,0)),iv (S.length:Int),v5,a6,a7,iv (S.length:Int),y9,y10,y11,y12,a13,a14,a15,y16,y17,y18,y19,y20,y21,y22,y23,y24,y25,y26,y27],marks,s'⟩):
    ∀ (d t:Nat) s1 O OB (v5 a9 a10 a11 a12 a16 a17 a18 a19 a20 a21 a22 a23 a24 a25 a26 a27:AV),d+t=S.length→AQ s1 p S O→By s1 O→D6 9 1 s1 v5 t (Bc ((S.take t).map CT)) OB→(∀j∈OB,j≠1∧j ∉ O) →
      WC E none (AU.loop LR) (AT 2 Q) [a0,a1,a2,.ptr (some (p,0)),iv (S.length:Int),v5,a6,a7,iv (t:Int),a9,a10,a11,a12,a13,a14,a15,a16,a17,a18,a19,a20,a21,a22,a23,a24,a25,a26,a27] marks s1:=by
  intro d
  induction d with
  | zero =>
    intro t s1 O OB v5 a9 a10 a11 a12 a16 a17 a18 a19 a20 a21 a22 a23 a24 a25 a26 a27 hd h hg hb hO
    have ht:t=S.length:=by omega
    subst ht
    refine WC.loop' ?_
    have hlt:¬ ((S.length:Int)<(S.length:Int)):=by omega
    simp only[LR,RW,Qa,Qb,Qc,Qd,Qe,Qf,Qg,Qh,Qi,Qj,Qk,Ql,Qm,Qn,true_and,and_true,Qo,Qp,Qq,Qr,Qs,Qt,Qu,Qv,Qw,Qx,Qy,Qz,Ra,Rb,Rc,Rd,Re,Rf,Rg,Rh,Ri,Rj,Rk,Rl,Rm,Ya,Yb,Yc,Rn,Ro,Xv,Yd,Ye,Rq,Rs,Rt,Ru,Rw,Rx,Ry,Rq,hlt,decide_false]
    exact hend _ _ _ _ _ _ _ _ _ _ _ _ _ _ _ _ _ s1 O h
  | succ d ih =>
    intro t s1 O OB v5 a9 a10 a11 a12 a16 a17 a18 a19 a20 a21 a22 a23 a24 a25 a26 a27 hd h hg hb hO
    have htl:t<S.length:=by omega
    have hlt:(t:Int)<(S.length:Int):=by omega
    have hadd:i64 ((t:Int)+1):=by unfold i64;omega
    obtain⟨T,hT0⟩:∃T,S[t]? = some T:=⟨_,bc htl⟩
    have hTm:=bn hT0
    have hixt:ix S T=t:=Ll h.ok.nd hT0
    have hblt:=hb.lt
    obtain⟨W,hW⟩:∃W,W=AU.loop LR:=⟨_,rfl⟩
    have hneq:decide ((t:Int)≠(t:Int))=false:=by simp
    have hrest:∀ (s4:AD) O4 (y9 y10 y12 y17 y18 y19 y20 y21 y22 y23 y24 y25' y26' y27':AV),AQ s4 p S O4→By s4 O4→DG O s1 s4→Aj O O4 s1 →
        Qb E RZ (fun v s'=>LY (JG v 25) (fun x x_1 x_2=>Qb E WV (fun v s'=>Q { exit:=JK.ret,var:=v,marks:=x_1,st:=s' }) [] x x_2)
          (fun x x_1 x_2=>Qb E Rp (fun v s'=>WC E none (AU.loop Jc) (AT 7 (G9 (fun x x_1 x_2=>Qb E R4 (fun v s'=>Qb E N9 (fun v s'=>WC E none W (AT 2 Q) v x_1 s') [] v s') [] x x_2)
            (AT 3 (G9 (fun x x_1 x_2=>Qb E N9 (fun v s'=>WC E none W (AT 2 Q) v x_1 s') [] x x_2) (G9 (WC E none W (AT 2 Q)) (AT 2 Q)))))) v x_1 s') [] x x_2) v marks s') []
          [a0,a1,a2,.ptr (some (p,0)),iv (S.length:Int),v5,a6,a7,iv (t:Int),y9,y10,iv (t:Int),y12,a13,a14,a15,.bool true,y17,y18,y19,y20,y21,y22,y23,y24,y25',y26',y27'] s4:=by
      intro s4 O4 y9 y10 y12 y17 y18 y19 y20 y21 y22 y23 y24 y25' y26' y27' h4 hg4 hf4 hgr4
      have hn14:=hf4.1
      have hb4:=hb.frame (s':=s4) hf4.1 fun j hj=>hf4.2 j (hblt j hj) (hO j hj).2
      have hO4:∀j∈OB,j≠1∧j ∉ O4:=fun j hj=>⟨(hO j hj).1,fun hm=>(hgr4 j hm).elim (hO j hj).2 (fun hl=>by have:=hblt j hj;omega)⟩
      simp only[RZ,Qa,Qb,Qc,Qd,Qe,Qf,Qg,Qh,Qi,Qj,Qk,Ql,Qm,Qn,true_and,and_true,Qo,Qp,Qq,Qr,Qs,Qt,Qu,Qv,Qw,Qx,Qy,Qz,Ra,Rb,Rc,Rd,Re,Rf,Rg,Rh,Ri,Rj,Rk,Rl,Rm,Ya,Yb,Yc,Rn,Ro,Xv,Yd,Ye,Rq,Rs,Rt,Ru,Rw,Rx,Ry,-Qu,-Qv,hneq]
      rw[Qv]
      simp only[Rp,Qa,Qb,Qc,Qd,Qe,Qf,Qg,Qh,Qi,Qj,Qk,Ql,Qm,Qn,true_and,and_true,Qo,Qp,Qq,Qr,Qs,Qt,Qu,Qv,Qw,Qx,Qy,Qz,Ra,Rb,Rc,Rd,Re,Rf,Rg,Rh,Ri,Rj,Rk,Rl,Rm,Ya,Yb,Yc,Rn,Ro,Xv,Yd,Ye,Rq,Rs,Rt,Ru,Rw,Rx,Ry]
      refine Nl hE hS9 hT hT0 h4 hg4 hb4 _ _ _ _ _ _ _ _ _ _ _ _ _ _ _ _ _ _ _ _ _ _ (fun y26 y27 s5 ho5=>?_) t 0 s4 _ _ (by omega) (BD.refl _ _)
      simp only[Qa,Qb,Qc,Qd,Qe,Qf,Qg,Qh,Qi,Qj,Qk,Ql,Qm,Qn,true_and,and_true,Qo,Qp,Qq,Qr,Qs,Qt,Qu,Qv,Qw,Qx,Qy,Qz,Ra,Rb,Rc,Rd,Re,Rf,Rg,Rh,Ri,Rj,Rk,Rl,Rm,Ya,Yb,Yc,Rn,Ro,Xv,Yd,Ye,Rq,Rs,Rt,Ru,Rw,Rx,Ry]
      rw[if_pos trivial]
      have h5:=h4.old ho5
      have hg5:=hg4.old ho5
      have htext:=Ov (p:=p) (O:=O4) hE hT (t+1) T (by omega) hTm
      rw[hixt]at htext
      simp only[R4,Qa,Qb,Qc,Qd,Qe,Qf,Qg,Qh,Qi,Qj,Qk,Ql,Qm,Qn,true_and,and_true,Qo,Qp,Qq,Qr,Qs,Qt,Qu,Qv,Qw,Qx,Qy,Qz,Ra,Rb,Rc,Rd,Re,Rf,Rg,Rh,Ri,Rj,Rk,Rl,Rm,Ya,Yb,Yc,Rn,Ro,Xv,Yd,Ye,Rq,Rs,Rt,Ru,Rw,Rx,Ry]
      refine htext s5 _ h5 hg5 fun s6 ho6=>?_
      have ho46:=ho5.trans (ho6.mono ho5.1)
      have hb6:=hb4.frame (s':=s6) ho46.1 fun j hj=>ho46.2 j (hb4.lt j hj)
      have hl6:((S.take t).map CT).length=t:=by simp;omega
      have hb6':D6 9 1 s6 v5 ((S.take t).map CT).length (Bc ((S.take t).map CT)) OB:=by rw[hl6];exact hb6
      obtain⟨v2,s7,OB2,e1,e2,e3,e4,e5⟩:=KA hb6' (CT T) (by omega)
      have hn46:=ho46.1
      have hlt6:=(h4.old ho46).lt
      have hb4l:=hb4.lt
      have h6:=h4.old ho46
      have hg6:=hg4.old ho46
      have hw7:AQ s7 p S O4:=h6.frame (by omega) fun j hj=>e4 j (hlt6 j hj) fun hm=>(hO4 j hm).2 hj
      have hg7:By s7 O4:=⟨by rw[BN (e4 1 hg6.2.1 fun hm=>(hO4 1 hm).1 rfl)];exact hg6.1,by rw[e3];have:=hg6.2.1;omega,hg6.2.2⟩
      have hb7:D6 9 1 s7 v2 (t+1) (Bc ((S.take (t+1)).map CT)) OB2:=by
        rw[cG htl,show S[t]=T from by rw[bc htl]at hT0;injection hT0,cK]
        rw[show((S.take t).map CT++[CT T]).length=t+1 from by rw[bu,hl6];rfl]at e2
        exact e2
      have:=ih (t+1) s7 O4 OB2 v2 y9 y10 (iv (t:Int)) (iv (t:Int)) (.bool true) y17 y18 y19 y20 y21 y22 y23 y24 (.bool false) y26 y27 (by omega) hw7 hg7 hb7 (fun j hj=>?_)
      · rw[← hW,show((t+1:Nat):Int)=(t:Int)+1 from by omega]at this
        simp only[Qa,Qb,Qc,Qd,Qe,Qf,Qg,Qh,Qi,Qj,Qk,Ql,Qm,Qn,true_and,and_true,Qo,Qp,Qq,Qr,Qs,Qt,Qu,Qv,Qw,Qx,Qy,Qz,Ra,Rb,Rc,Rd,Re,Rf,Rg,Rh,Ri,Rj,Rk,Rl,Rm,Ya,Yb,Yc,Rn,Ro,Xv,Yd,Ye,Rq,Rs,Rt,Ru,Rw,Rx,Ry,Ez,e1,N9,A9 _ _ _ _ hadd,Rz,Wa,Wb,Wc,Wd,We,Wf,Wg,Wh,Wi,Wj,Wl,Wm,Wn,Wp,Wq,Wr,Ws,Wt,Wu,Wv,Ww,Wx,Wy,Wz,Xa,Xb,Xc,Xd,Xe,Xf,Xg,Xh,Xi,Xj,Xk,Xl,Xm,Xn,Xo,Xp,Xq,Xr,bO,bT,bS,bP,bU,bV,List.getElem?_cons_zero,List.getElem?_cons_succ,bR,bX,bW,bY,bN,Nat.reduceAdd,Nat.reduceLT,Nat.reduceLeDiff,decide_true,decide_false,Bool.true_and,Bool.and_true,bZ,bM,Option.some.injEq,Xs,Xt,Xu,Xv]
        exact this
      · rcases e5 j hj with h' | h'
        · exact hO4 j h'
        · have h10:1<s6.next:=hg6.2.1
          exact⟨by omega,fun hm=>by have:=hlt6 j hm;omega⟩
    refine WC.loop' ?_
    rw[← hW]
    have hkids:=fun(K:AV→AD→Prop)=>UQ (K:=K) hE h hTm
    rw[hixt]at hkids
    simp only[LR,RW,WH,Qa,Qb,Qc,Qd,Qe,Qf,Qg,Qh,Qi,Qj,Qk,Ql,Qm,Qn,true_and,and_true,Qo,Qp,Qq,Qr,Qs,Qt,Qu,Qv,Qw,Qx,Qy,Qz,Ra,Rb,Rc,Rd,Re,Rf,Rg,Rh,Ri,Rj,Rk,Rl,Rm,Ya,Yb,Yc,Rn,Ro,Xv,Yd,Ye,Rq,Rs,Rt,Ru,Rw,Rx,Ry,Rq,hlt,decide_true]
    refine hkids _ fun v9 s2 ho2 hrd=>?_
    simp only[WJ,Qa,Qb,Qc,Qd,Qe,Qf,Qg,Qh,Qi,Qj,Qk,Ql,Qm,Qn,true_and,and_true,Qo,Qp,Qq,Qr,Qs,Qt,Qu,Qv,Qw,Qx,Qy,Qz,Ra,Rb,Rc,Rd,Re,Rf,Rg,Rh,Ri,Rj,Rk,Rl,Rm,Ya,Yb,Yc,Rn,Ro,Xv,Yd,Ye,Rq,Rs,Rt,Ru,Rw,Rx,Ry]
    have hkl:(GL S T).length≤3:=by rw[CD];exact DQ T
    refine Pa hrd hkl (t:=t) (fun x hx=>?_) _ _ _ _ _ _ _ _ _ _ _ _ _ _ _ _ _ _ _ _ _ _ _ (fun y17 y18=>?_) (GL S T).length 0 _ _ (by omega)
    · obtain⟨k,hk,rfl⟩:=List.mem_map.1 hx
      have:=(hSk.kid hTm hk).2
      omega
    simp only[Qa,Qb,Qc,Qd,Qe,Qf,Qg,Qh,Qi,Qj,Qk,Ql,Qm,Qn,true_and,and_true,Qo,Qp,Qq,Qr,Qs,Qt,Qu,Qv,Qw,Qx,Qy,Qz,Ra,Rb,Rc,Rd,Re,Rf,Rg,Rh,Ri,Rj,Rk,Rl,Rm,Ya,Yb,Yc,Rn,Ro,Xv,Yd,Ye,Rq,Rs,Rt,Ru,Rw,Rx,Ry]
    rw[if_pos trivial]
    have h2:=h.old ho2
    have hg2:=hg.old ho2
    have hkind:=fun(K:AV→AD→Prop)=>UR (K:=K) hE h2 hTm
    rw[hixt]at hkind
    simp only[WM,WN,Qa,Qb,Qc,Qd,Qe,Qf,Qg,Qh,Qi,Qj,Qk,Ql,Qm,Qn,true_and,and_true,Qo,Qp,Qq,Qr,Qs,Qt,Qu,Qv,Qw,Qx,Qy,Qz,Ra,Rb,Rc,Rd,Re,Rf,Rg,Rh,Ri,Rj,Rk,Rl,Rm,Ya,Yb,Yc,Rn,Ro,Xv,Yd,Ye,Rq,Rs,Rt,Ru,Rw,Rx,Ry]
    refine hkind _ fun s3 ho3=>?_
    have h3:=h2.old ho3
    have hg3:=hg2.old ho3
    have ho13:BD s1.next s1 s3:=ho2.trans (ho3.mono ho2.1)
    have hf13:DG O s1 s3:=ho13.frO O
    have hfin:∀ (s4:AD) (ho4:BD s3.next s3 s4) s5 O5,DG O s4 s5→Aj O O5 s4→DG O s1 s5∧Aj O O5 s1:=fun s4 ho4 s5 O5 g2 g3 =>
      ⟨(hf13.trans (ho4.frO O) (Aj.refl O s1)).trans g2 (Aj.refl O s1),Aj.trans (Aj.refl O s1) g3 (bo ho13.1 ho4.1)⟩
    have hpush:push S T=S:=if_pos hTm
    have hid:=fun(K:AV→AD→Prop)=>Z5 (K:=K) hE h3 hTm
    have hval:=fun(K:AV→AD→Prop)=>Tj (K:=K) hE h3 hTm
    rw[hixt]at hid hval
    have hTok:=hSk.ok T hTm
    have hrd3:=hrd.old ho3
    cases T with
    | var i =>
      simp only[Tm.kind,Jd,Qa,Qb,Qc,Qd,Qe,Qf,Qg,Qh,Qi,Qj,Qk,Ql,Qm,Qn,true_and,and_true,Qo,Qp,Qq,Qr,Qs,Qt,Qu,Qv,Qw,Qx,Qy,Qz,Ra,Rb,Rc,Rd,Re,Rf,Rg,Rh,Ri,Rj,Rk,Rl,Rm,Ya,Yb,Yc,Rn,Ro,Xv,Yd,Ye,Rq,Rs,Rt,Ru,Rw,Rx,Ry,-Qu,-Qv,Rw,Int.reduceEq,decide_true,decide_false]
      rw[Qu]
      simp only[WO,Qa,Qb,Qc,Qd,Qe,Qf,Qg,Qh,Qi,Qj,Qk,Ql,Qm,Qn,true_and,and_true,Qo,Qp,Qq,Qr,Qs,Qt,Qu,Qv,Qw,Qx,Qy,Qz,Ra,Rb,Rc,Rd,Re,Rf,Rg,Rh,Ri,Rj,Rk,Rl,Rm,Ya,Yb,Yc,Rn,Ro,Xv,Yd,Ye,Rq,Rs,Rt,Ru,Rw,Rx,Ry]
      refine hid _ fun s4 ho4=>?_
      simp only[Tm.id,Qa,Qb,Qc,Qd,Qe,Qf,Qg,Qh,Qi,Qj,Qk,Ql,Qm,Qn,true_and,and_true,Qo,Qp,Qq,Qr,Qs,Qt,Qu,Qv,Qw,Qx,Qy,Qz,Ra,Rb,Rc,Rd,Re,Rf,Rg,Rh,Ri,Rj,Rk,Rl,Rm,Ya,Yb,Yc,Rn,Ro,Xv,Yd,Ye,Rq,Rs,Rt,Ru,Rw,Rx,Ry]
      refine Ox hE (h3.old ho4) (by omega) hTok fun s5 O5 g1 g2 g3=>?_
      rw[hpush]at g1 ⊢
      rw[hixt]
      obtain⟨f1,f2⟩:=hfin s4 ho4 s5 O5 g2 g3
      simp only[Qa,Qb,Qc,Qd,Qe,Qf,Qg,Qh,Qi,Qj,Qk,Ql,Qm,Qn,true_and,and_true,Qo,Qp,Qq,Qr,Qs,Qt,Qu,Qv,Qw,Qx,Qy,Qz,Ra,Rb,Rc,Rd,Re,Rf,Rg,Rh,Ri,Rj,Rk,Rl,Rm,Ya,Yb,Yc,Rn,Ro,Xv,Yd,Ye,Rq,Rs,Rt,Ru,Rw,Rx,Ry]
      exact hrest s5 O5 _ _ _ _ _ _ _ _ _ _ _ _ _ _ g1 ((hg3.old ho4).step g2 g3) f1 f2
    | bnd i =>
      have hmx:max i 0=i:=Int.max_eq_left hTok.1
      simp only[Tm.kind,Jd,Qa,Qb,Qc,Qd,Qe,Qf,Qg,Qh,Qi,Qj,Qk,Ql,Qm,Qn,true_and,and_true,Qo,Qp,Qq,Qr,Qs,Qt,Qu,Qv,Qw,Qx,Qy,Qz,Ra,Rb,Rc,Rd,Re,Rf,Rg,Rh,Ri,Rj,Rk,Rl,Rm,Ya,Yb,Yc,Rn,Ro,Xv,Yd,Ye,Rq,Rs,Rt,Ru,Rw,Rx,Ry,-Qu,-Qv,Rw,Int.reduceEq,decide_true,decide_false]
      rw[Qv]
      simp only[LS,Qa,Qb,Qc,Qd,Qe,Qf,Qg,Qh,Qi,Qj,Qk,Ql,Qm,Qn,true_and,and_true,Qo,Qp,Qq,Qr,Qs,Qt,Qu,Qv,Qw,Qx,Qy,Qz,Ra,Rb,Rc,Rd,Re,Rf,Rg,Rh,Ri,Rj,Rk,Rl,Rm,Ya,Yb,Yc,Rn,Ro,Xv,Yd,Ye,Rq,Rs,Rt,Ru,Rw,Rx,Ry,-Qu,-Qv,Rw,Int.reduceEq,decide_true,decide_false]
      rw[Qu]
      simp only[WP,Qa,Qb,Qc,Qd,Qe,Qf,Qg,Qh,Qi,Qj,Qk,Ql,Qm,Qn,true_and,and_true,Qo,Qp,Qq,Qr,Qs,Qt,Qu,Qv,Qw,Qx,Qy,Qz,Ra,Rb,Rc,Rd,Re,Rf,Rg,Rh,Ri,Rj,Rk,Rl,Rm,Ya,Yb,Yc,Rn,Ro,Xv,Yd,Ye,Rq,Rs,Rt,Ru,Rw,Rx,Ry]
      refine hid _ fun s4 ho4=>?_
      simp only[Tm.id,Qa,Qb,Qc,Qd,Qe,Qf,Qg,Qh,Qi,Qj,Qk,Ql,Qm,Qn,true_and,and_true,Qo,Qp,Qq,Qr,Qs,Qt,Qu,Qv,Qw,Qx,Qy,Qz,Ra,Rb,Rc,Rd,Re,Rf,Rg,Rh,Ri,Rj,Rk,Rl,Rm,Ya,Yb,Yc,Rn,Ro,Xv,Yd,Ye,Rq,Rs,Rt,Ru,Rw,Rx,Ry]
      refine Ou hE (h3.old ho4) (by omega) hTok.2 fun s5 O5 g1 g2 g3=>?_
      rw[hmx,hpush]at g1 ⊢
      rw[hixt]
      obtain⟨f1,f2⟩:=hfin s4 ho4 s5 O5 g2 g3
      simp only[Qa,Qb,Qc,Qd,Qe,Qf,Qg,Qh,Qi,Qj,Qk,Ql,Qm,Qn,true_and,and_true,Qo,Qp,Qq,Qr,Qs,Qt,Qu,Qv,Qw,Qx,Qy,Qz,Ra,Rb,Rc,Rd,Re,Rf,Rg,Rh,Ri,Rj,Rk,Rl,Rm,Ya,Yb,Yc,Rn,Ro,Xv,Yd,Ye,Rq,Rs,Rt,Ru,Rw,Rx,Ry]
      exact hrest s5 O5 _ _ _ _ _ _ _ _ _ _ _ _ _ _ g1 ((hg3.old ho4).step g2 g3) f1 f2
    | con m =>
      simp only[Tm.kind,Jd,Qa,Qb,Qc,Qd,Qe,Qf,Qg,Qh,Qi,Qj,Qk,Ql,Qm,Qn,true_and,and_true,Qo,Qp,Qq,Qr,Qs,Qt,Qu,Qv,Qw,Qx,Qy,Qz,Ra,Rb,Rc,Rd,Re,Rf,Rg,Rh,Ri,Rj,Rk,Rl,Rm,Ya,Yb,Yc,Rn,Ro,Xv,Yd,Ye,Rq,Rs,Rt,Ru,Rw,Rx,Ry,-Qu,-Qv,Rw,Int.reduceEq,decide_true,decide_false]
      rw[Qv]
      simp only[LS,Qa,Qb,Qc,Qd,Qe,Qf,Qg,Qh,Qi,Qj,Qk,Ql,Qm,Qn,true_and,and_true,Qo,Qp,Qq,Qr,Qs,Qt,Qu,Qv,Qw,Qx,Qy,Qz,Ra,Rb,Rc,Rd,Re,Rf,Rg,Rh,Ri,Rj,Rk,Rl,Rm,Ya,Yb,Yc,Rn,Ro,Xv,Yd,Ye,Rq,Rs,Rt,Ru,Rw,Rx,Ry,-Qu,-Qv,Rw,Int.reduceEq,decide_true,decide_false]
      rw[Qv]
      simp only[N8,Qa,Qb,Qc,Qd,Qe,Qf,Qg,Qh,Qi,Qj,Qk,Ql,Qm,Qn,true_and,and_true,Qo,Qp,Qq,Qr,Qs,Qt,Qu,Qv,Qw,Qx,Qy,Qz,Ra,Rb,Rc,Rd,Re,Rf,Rg,Rh,Ri,Rj,Rk,Rl,Rm,Ya,Yb,Yc,Rn,Ro,Xv,Yd,Ye,Rq,Rs,Rt,Ru,Rw,Rx,Ry,-Qu,-Qv,Rw,Int.reduceEq,decide_true,decide_false]
      rw[Qu]
      simp only[WQ,Qa,Qb,Qc,Qd,Qe,Qf,Qg,Qh,Qi,Qj,Qk,Ql,Qm,Qn,true_and,and_true,Qo,Qp,Qq,Qr,Qs,Qt,Qu,Qv,Qw,Qx,Qy,Qz,Ra,Rb,Rc,Rd,Re,Rf,Rg,Rh,Ri,Rj,Rk,Rl,Rm,Ya,Yb,Yc,Rn,Ro,Xv,Yd,Ye,Rq,Rs,Rt,Ru,Rw,Rx,Ry]
      refine hval _ fun s4 ho4=>?_
      simp only[Qa,Qb,Qc,Qd,Qe,Qf,Qg,Qh,Qi,Qj,Qk,Ql,Qm,Qn,true_and,and_true,Qo,Qp,Qq,Qr,Qs,Qt,Qu,Qv,Qw,Qx,Qy,Qz,Ra,Rb,Rc,Rd,Re,Rf,Rg,Rh,Ri,Rj,Rk,Rl,Rm,Ya,Yb,Yc,Rn,Ro,Xv,Yd,Ye,Rq,Rs,Rt,Ru,Rw,Rx,Ry]
      refine K8 hE (h3.old ho4) (by omega) hTok (hg3.old ho4) fun s5 O5 g1 g2 g3=>?_
      rw[hpush]at g1 ⊢
      rw[hixt]
      obtain⟨f1,f2⟩:=hfin s4 ho4 s5 O5 g2 g3
      simp only[Qa,Qb,Qc,Qd,Qe,Qf,Qg,Qh,Qi,Qj,Qk,Ql,Qm,Qn,true_and,and_true,Qo,Qp,Qq,Qr,Qs,Qt,Qu,Qv,Qw,Qx,Qy,Qz,Ra,Rb,Rc,Rd,Re,Rf,Rg,Rh,Ri,Rj,Rk,Rl,Rm,Ya,Yb,Yc,Rn,Ro,Xv,Yd,Ye,Rq,Rs,Rt,Ru,Rw,Rx,Ry]
      exact hrest s5 O5 _ _ _ _ _ _ _ _ _ _ _ _ _ _ g1 ((hg3.old ho4).step g2 g3) f1 f2
    | sel x y =>
      have hx:=(hSk.kid hTm (k:=x) (by simp[Tm.kids])).1
      have hy:=(hSk.kid hTm (k:=y) (by simp[Tm.kids])).1
      have hks:GL S (.sel x y)=[(ix S x:Int),(ix S y:Int)]:=rfl
      rw[hks]at hrd3
      obtain⟨j,q,cap,hv,hj,hl0⟩:=hrd3.at (k:=0) (x:=(ix S x:Int)) rfl
      obtain⟨j2,q2,cap2,hv2,_,hl1⟩:=hrd3.at (k:=1) (x:=(ix S y:Int)) rfl
      have hv':v9=.slice (some (j,q)) 2 cap:=hv
      have hi0:=ED (i:=j) (o:=q) (c:=cap) (show 0<2 by omega)
      have hi1:=ED (i:=j) (o:=q) (c:=cap) (show 1<2 by omega)
      have hi0:AH Tryz.prog 27 (.slice (some (j,q)) 2 cap) (iv 0)=some (.ptr (some (j,q+0))):=hi0
      have hi1:AH Tryz.prog 27 (.slice (some (j,q)) 2 cap) (iv 1)=some (.ptr (some (j,q+1))):=hi1
      have hjq:j2=j∧q2=q:=by
        rw[hv']at hv2
        injection hv2 with e1 _ _
        injection e1 with e1
        injection e1 with e1 e2
        exact⟨e1.symm,e2.symm⟩
      obtain⟨rfl,rfl⟩:=hjq
      subst hv'
      have htx:=Gd hx
      have hty:=Gd hy
      have hth:Ct S.length S [(ix S x:Int),(ix S y:Int)]=S:=I6 fun z hz=>by simp only[bv,b4,or_false]at hz;rcases hz with rfl | rfl;exact htx.2;exact hty.2
      simp only[Tm.kind,Jd,Qa,Qb,Qc,Qd,Qe,Qf,Qg,Qh,Qi,Qj,Qk,Ql,Qm,Qn,true_and,and_true,Qo,Qp,Qq,Qr,Qs,Qt,Qu,Qv,Qw,Qx,Qy,Qz,Ra,Rb,Rc,Rd,Re,Rf,Rg,Rh,Ri,Rj,Rk,Rl,Rm,Ya,Yb,Yc,Rn,Ro,Xv,Yd,Ye,Rq,Rs,Rt,Ru,Rw,Rx,Ry,-Qu,-Qv,Rw,Int.reduceEq,decide_true,decide_false]
      rw[Qv]
      simp only[LS,Qa,Qb,Qc,Qd,Qe,Qf,Qg,Qh,Qi,Qj,Qk,Ql,Qm,Qn,true_and,and_true,Qo,Qp,Qq,Qr,Qs,Qt,Qu,Qv,Qw,Qx,Qy,Qz,Ra,Rb,Rc,Rd,Re,Rf,Rg,Rh,Ri,Rj,Rk,Rl,Rm,Ya,Yb,Yc,Rn,Ro,Xv,Yd,Ye,Rq,Rs,Rt,Ru,Rw,Rx,Ry,-Qu,-Qv,Rw,Int.reduceEq,decide_true,decide_false]
      rw[Qv]
      simp only[N8,Qa,Qb,Qc,Qd,Qe,Qf,Qg,Qh,Qi,Qj,Qk,Ql,Qm,Qn,true_and,and_true,Qo,Qp,Qq,Qr,Qs,Qt,Qu,Qv,Qw,Qx,Qy,Qz,Ra,Rb,Rc,Rd,Re,Rf,Rg,Rh,Ri,Rj,Rk,Rl,Rm,Ya,Yb,Yc,Rn,Ro,Xv,Yd,Ye,Rq,Rs,Rt,Ru,Rw,Rx,Ry,-Qu,-Qv,Rw,Int.reduceEq,decide_true,decide_false]
      rw[Qv]
      simp only[RY,Qa,Qb,Qc,Qd,Qe,Qf,Qg,Qh,Qi,Qj,Qk,Ql,Qm,Qn,true_and,and_true,Qo,Qp,Qq,Qr,Qs,Qt,Qu,Qv,Qw,Qx,Qy,Qz,Ra,Rb,Rc,Rd,Re,Rf,Rg,Rh,Ri,Rj,Rk,Rl,Rm,Ya,Yb,Yc,Rn,Ro,Xv,Yd,Ye,Rq,Rs,Rt,Ru,Rw,Rx,Ry,-Qu,-Qv,Rw,Int.reduceEq,decide_true,decide_false]
      rw[Qu]
      simp only[WS,Qa,Qb,Qc,Qd,Qe,Qf,Qg,Qh,Qi,Qj,Qk,Ql,Qm,Qn,true_and,and_true,Qo,Qp,Qq,Qr,Qs,Qt,Qu,Qv,Qw,Qx,Qy,Qz,Ra,Rb,Rc,Rd,Re,Rf,Rg,Rh,Ri,Rj,Rk,Rl,Rm,Ya,Yb,Yc,Rn,Ro,Xv,Yd,Ye,Rq,Rs,Rt,Ru,Rw,Rx,Ry,hi0,hi1,C3,hl0,hl1,Rz,Wa,Wb,Wc,Wd,We,Wf,Wg,Wh,Wi,Wj,Wl,Wm,Wn,Wp,Wq,Wr,Ws,Wt,Wu,Wv,Ww,Wx,Wy,Wz,Xa,Xb,Xc,Xd,Xe,Xf,Xg,Xh,Xi,Xj,Xk,Xl,Xm,Xn,Xo,Xp,Xq,Xr,bO,bT,bS,bP,bU,bV,List.getElem?_cons_zero,List.getElem?_cons_succ,bR,bX,bW,bY,bN,Nat.reduceAdd,Nat.reduceLT,Nat.reduceLeDiff,decide_true,decide_false,Bool.true_and,Bool.and_true,bZ,bM,Option.some.injEq,Xs,Xt,Xu,Xv]
      refine TV hE h3 (by omega) hg3 fun s5 O5 g1 gg g2 g3=>?_
      rw[hth,htx.1,hty.1,hpush]at g1 ⊢
      rw[hixt]
      obtain⟨f1,f2⟩:=hfin s3 (BD.refl _ _) s5 O5 g2 g3
      simp only[Qa,Qb,Qc,Qd,Qe,Qf,Qg,Qh,Qi,Qj,Qk,Ql,Qm,Qn,true_and,and_true,Qo,Qp,Qq,Qr,Qs,Qt,Qu,Qv,Qw,Qx,Qy,Qz,Ra,Rb,Rc,Rd,Re,Rf,Rg,Rh,Ri,Rj,Rk,Rl,Rm,Ya,Yb,Yc,Rn,Ro,Xv,Yd,Ye,Rq,Rs,Rt,Ru,Rw,Rx,Ry]
      exact hrest s5 O5 _ _ _ _ _ _ _ _ _ _ _ _ _ _ g1 gg f1 f2
    | upd x y z =>
      have hx:=(hSk.kid hTm (k:=x) (by simp[Tm.kids])).1
      have hy:=(hSk.kid hTm (k:=y) (by simp[Tm.kids])).1
      have hz:=(hSk.kid hTm (k:=z) (by simp[Tm.kids])).1
      have hks:GL S (.upd x y z)=[(ix S x:Int),(ix S y:Int),(ix S z:Int)]:=rfl
      rw[hks]at hrd3
      obtain⟨j,q,cap,hv,hj,hl0⟩:=hrd3.at (k:=0) (x:=(ix S x:Int)) rfl
      obtain⟨j2,q2,cap2,hv2,_,hl1⟩:=hrd3.at (k:=1) (x:=(ix S y:Int)) rfl
      obtain⟨j3,q3,cap3,hv3,_,hl2⟩:=hrd3.at (k:=2) (x:=(ix S z:Int)) rfl
      have hv':v9=.slice (some (j,q)) 3 cap:=hv
      have hi0:=ED (i:=j) (o:=q) (c:=cap) (show 0<3 by omega)
      have hi1:=ED (i:=j) (o:=q) (c:=cap) (show 1<3 by omega)
      have hi2:=ED (i:=j) (o:=q) (c:=cap) (show 2<3 by omega)
      have hi0:AH Tryz.prog 27 (.slice (some (j,q)) 3 cap) (iv 0)=some (.ptr (some (j,q+0))):=hi0
      have hi1:AH Tryz.prog 27 (.slice (some (j,q)) 3 cap) (iv 1)=some (.ptr (some (j,q+1))):=hi1
      have hi2:AH Tryz.prog 27 (.slice (some (j,q)) 3 cap) (iv 2)=some (.ptr (some (j,q+2))):=hi2
      have hjq:j2=j∧q2=q:=by
        rw[hv']at hv2
        injection hv2 with e1 _ _
        injection e1 with e1
        injection e1 with e1 e2
        exact⟨e1.symm,e2.symm⟩
      have hjq3:j3=j∧q3=q:=by
        rw[hv']at hv3
        injection hv3 with e1 _ _
        injection e1 with e1
        injection e1 with e1 e2
        exact⟨e1.symm,e2.symm⟩
      obtain⟨rfl,rfl⟩:=hjq
      obtain⟨rfl,rfl⟩:=hjq3
      subst hv'
      have htx:=Gd hx
      have hty:=Gd hy
      have htz:=Gd hz
      have hth:Ct S.length S [(ix S x:Int),(ix S y:Int),(ix S z:Int)]=S:=I6 fun w hw=>by simp only[bv,b4,or_false]at hw;rcases hw with rfl | rfl | rfl;exact htx.2;exact hty.2;exact htz.2
      simp only[Tm.kind,Jd,Qa,Qb,Qc,Qd,Qe,Qf,Qg,Qh,Qi,Qj,Qk,Ql,Qm,Qn,true_and,and_true,Qo,Qp,Qq,Qr,Qs,Qt,Qu,Qv,Qw,Qx,Qy,Qz,Ra,Rb,Rc,Rd,Re,Rf,Rg,Rh,Ri,Rj,Rk,Rl,Rm,Ya,Yb,Yc,Rn,Ro,Xv,Yd,Ye,Rq,Rs,Rt,Ru,Rw,Rx,Ry,-Qu,-Qv,Rw,Int.reduceEq,decide_true,decide_false]
      rw[Qv]
      simp only[LS,Qa,Qb,Qc,Qd,Qe,Qf,Qg,Qh,Qi,Qj,Qk,Ql,Qm,Qn,true_and,and_true,Qo,Qp,Qq,Qr,Qs,Qt,Qu,Qv,Qw,Qx,Qy,Qz,Ra,Rb,Rc,Rd,Re,Rf,Rg,Rh,Ri,Rj,Rk,Rl,Rm,Ya,Yb,Yc,Rn,Ro,Xv,Yd,Ye,Rq,Rs,Rt,Ru,Rw,Rx,Ry,-Qu,-Qv,Rw,Int.reduceEq,decide_true,decide_false]
      rw[Qv]
      simp only[N8,Qa,Qb,Qc,Qd,Qe,Qf,Qg,Qh,Qi,Qj,Qk,Ql,Qm,Qn,true_and,and_true,Qo,Qp,Qq,Qr,Qs,Qt,Qu,Qv,Qw,Qx,Qy,Qz,Ra,Rb,Rc,Rd,Re,Rf,Rg,Rh,Ri,Rj,Rk,Rl,Rm,Ya,Yb,Yc,Rn,Ro,Xv,Yd,Ye,Rq,Rs,Rt,Ru,Rw,Rx,Ry,-Qu,-Qv,Rw,Int.reduceEq,decide_true,decide_false]
      rw[Qv]
      simp only[RY,Qa,Qb,Qc,Qd,Qe,Qf,Qg,Qh,Qi,Qj,Qk,Ql,Qm,Qn,true_and,and_true,Qo,Qp,Qq,Qr,Qs,Qt,Qu,Qv,Qw,Qx,Qy,Qz,Ra,Rb,Rc,Rd,Re,Rf,Rg,Rh,Ri,Rj,Rk,Rl,Rm,Ya,Yb,Yc,Rn,Ro,Xv,Yd,Ye,Rq,Rs,Rt,Ru,Rw,Rx,Ry,-Qu,-Qv,Rw,Int.reduceEq,decide_true,decide_false]
      rw[Qv]
      simp only[WT,Qa,Qb,Qc,Qd,Qe,Qf,Qg,Qh,Qi,Qj,Qk,Ql,Qm,Qn,true_and,and_true,Qo,Qp,Qq,Qr,Qs,Qt,Qu,Qv,Qw,Qx,Qy,Qz,Ra,Rb,Rc,Rd,Re,Rf,Rg,Rh,Ri,Rj,Rk,Rl,Rm,Ya,Yb,Yc,Rn,Ro,Xv,Yd,Ye,Rq,Rs,Rt,Ru,Rw,Rx,Ry,-Qu,-Qv,Rw,Int.reduceEq,decide_true,decide_false]
      rw[Qu]
      simp only[WU,Qa,Qb,Qc,Qd,Qe,Qf,Qg,Qh,Qi,Qj,Qk,Ql,Qm,Qn,true_and,and_true,Qo,Qp,Qq,Qr,Qs,Qt,Qu,Qv,Qw,Qx,Qy,Qz,Ra,Rb,Rc,Rd,Re,Rf,Rg,Rh,Ri,Rj,Rk,Rl,Rm,Ya,Yb,Yc,Rn,Ro,Xv,Yd,Ye,Rq,Rs,Rt,Ru,Rw,Rx,Ry,hi0,hi1,hi2,C3,hl0,hl1,hl2,Rz,Wa,Wb,Wc,Wd,We,Wf,Wg,Wh,Wi,Wj,Wl,Wm,Wn,Wp,Wq,Wr,Ws,Wt,Wu,Wv,Ww,Wx,Wy,Wz,Xa,Xb,Xc,Xd,Xe,Xf,Xg,Xh,Xi,Xj,Xk,Xl,Xm,Xn,Xo,Xp,Xq,Xr,bO,bT,bS,bP,bU,bV,List.getElem?_cons_zero,List.getElem?_cons_succ,bR,bX,bW,bY,bN,Nat.reduceAdd,Nat.reduceLT,Nat.reduceLeDiff,decide_true,decide_false,Bool.true_and,Bool.and_true,bZ,bM,Option.some.injEq,Xs,Xt,Xu,Xv]
      refine Tg hE h3 (by omega) hg3 fun s5 O5 g1 gg g2 g3=>?_
      rw[hth,htx.1,hty.1,htz.1,hpush]at g1 ⊢
      rw[hixt]
      obtain⟨f1,f2⟩:=hfin s3 (BD.refl _ _) s5 O5 g2 g3
      simp only[Qa,Qb,Qc,Qd,Qe,Qf,Qg,Qh,Qi,Qj,Qk,Ql,Qm,Qn,true_and,and_true,Qo,Qp,Qq,Qr,Qs,Qt,Qu,Qv,Qw,Qx,Qy,Qz,Ra,Rb,Rc,Rd,Re,Rf,Rg,Rh,Ri,Rj,Rk,Rl,Rm,Ya,Yb,Yc,Rn,Ro,Xv,Yd,Ye,Rq,Rs,Rt,Ru,Rw,Rx,Ry]
      exact hrest s5 O5 _ _ _ _ _ _ _ _ _ _ _ _ _ _ g1 gg f1 f2
theorem QI        {ops : List DZ}  : (∀ o ∈ ops, -2 ≤ o.id ∧ o.id ≤ 4) → Told (Cr    ops) := by
  induction ops using I0 with
  | h0=>exact fun _=>⟨fun i hi=>absurd hi (by simp[Cr]),fun i hi=>absurd hi (by simp[Cr])⟩
  | h1 l o ih =>
    intro h
    have ih:=ih fun o ho=>h o (b5 _ ho)
    have ho:=h o (by simp)
    rw[Fg]
    constructor
    · intro i hi
      rcases Hw hi with hi | hi | hi
      · exact ih.1 i hi
      · cases hi
      · unfold IK at hi
        split at hi
        · injection hi with hi;omega
        · split at hi
          · cases hi
          · split at hi
            · cases hi
            · split at hi<;>cases hi
    · intro i hi
      rcases Hw hi with hi | hi | hi
      · exact ih.2 i hi
      · cases hi
      · unfold IK at hi
        split at hi
        · cases hi
        · split at hi
          · injection hi with hi;omega
          · split at hi
            · cases hi
            · split at hi<;>cases hi
set_option maxRecDepth 20000 in
theorem Po{E:Bl}(hE:Ai E){s:AD}(hg:CV s 1 A7=true)(h1:1<s.next){v0:AV}{l:List Hk}(hv0:Cm s v0 l)(hu:∀m∈l,Hk.ok m){K:AV→AD→Prop}(hK:∀s',K (.bool true) s'):
  WF E 4 [v0] K s:=by
 refine hE.go Zy (by decide) rfl ?_
 simp only[c4,Ze,Zf,Qa,Qb,Qc,Qd,Qe,Qf,Qg,Qh,Qi,Qj,Qk,Ql,Qm,Qn,true_and,and_true,Qo,Qp,Qq,Qr,Qs,Qt,Qu,Qv,Qw,Qx,Qy,Qz,Ra,Rb,Rc,Rd,Re,Rf,Rg,Rh,Ri,Rj,Rk,Rl,Rm,Ya,Yb,Yc,Rn,Ro,Xv,Yd,Ye,Rq,Rs,Rt,Ru,Rw,Rx,Ry]
 refine No hE hg ?_
 simp only[Ry,Bool.not_true,Zi,Qa,Qb,Qc,Qd,Qe,Qf,Qg,Qh,Qi,Qj,Qk,Ql,Qm,Qn,true_and,and_true,Qo,Qp,Qq,Qr,Qs,Qt,Qu,Qv,Qw,Qx,Qy,Qz,Ra,Rb,Rc,Rd,Re,Rf,Rg,Rh,Ri,Rj,Rk,Rl,Rm,Ya,Yb,Yc,Rn,Ro,Xv,Yd,Ye,Rq,Rs,Rt,Ru,Rw,Rx,Ry]
 refine MH hE hg h1 hv0 hu fun q vo s1 ops OB e0 e1 e2 e3 e4 e5=>?_
 simp only[Zj,Qa,Qb,Qc,Qd,Qe,Qf,Qg,Qh,Qi,Qj,Qk,Ql,Qm,Qn,true_and,and_true,Qo,Qp,Qq,Qr,Qs,Qt,Qu,Qv,Qw,Qx,Qy,Qz,Ra,Rb,Rc,Rd,Re,Rf,Rg,Rh,Ri,Rj,Rk,Rl,Rm,Ya,Yb,Yc,Rn,Ro,Xv,Yd,Ye,Rq,Rs,Rt,Ru,Rw,Rx,Ry,Rz,Wa,Wb,Wc,Wd,We,Wf,Wg,Wh,Wi,Wj,Wl,Wm,Wn,Wp,Wq,Wr,Ws,Wt,Wu,Wv,Ww,Wx,Wy,Wz,Xa,Xb,Xc,Xd,Xe,Xf,Xg,Xh,Xi,Xj,Xk,Xl,Xm,Xn,Xo,Xp,Xq,Xr,bO,bT,bS,bP,bU,bV,List.getElem?_cons_zero,List.getElem?_cons_succ,bR,bX,bW,bY,bN,Nat.reduceAdd,Nat.reduceLT,Nat.reduceLeDiff,decide_true,decide_false,Bool.true_and,Bool.and_true,bZ,bM,Option.some.injEq,Xs,Xt,Xu,Xv]
 refine Pe hE (by rw[BN (e3.2 1 h1)];exact hg) (bi h1 e3.1) (hv0.old e3) hu fun p s2 S O k0 k1 k2 k3 k4 k5=>?_
 rw[← e0]at k0
 have hall:=(Pf (l.take 40)).2
 rw[← e0,← k0]at hall
 have hT:Told S:=by rw[k0];exact QI fun o ho=>(hall o ho).1.2
 have hops:∀o∈ops,o.ok∧Hm S o=S∧IK S o∈S:=fun o ho=>by
  obtain⟨⟨g1,_⟩,S0,g2,g3⟩:=hall o ho
  have h2:=(aT g1 g2 g3).2
  exact⟨g1,h2,by have:=OL (S:=S) (o:=o);rw[h2]at this;exact this⟩
 have hlen:=k3.len
 have hb2:=e4.frame k4.1 fun j hj=>k4.2 j (e4.lt j hj)
 have hBO:∀j∈OB,j ∉ O:=fun j hj hm=>by have:=e4.lt j hj;have:=k5 j hm;omega
 simp only[Zl,Qa,Qb,Qc,Qd,Qe,Qf,Qg,Qh,Qi,Qj,Qk,Ql,Qm,Qn,true_and,and_true,Qo,Qp,Qq,Qr,Qs,Qt,Qu,Qv,Qw,Qx,Qy,Qz,Ra,Rb,Rc,Rd,Re,Rf,Rg,Rh,Ri,Rj,Rk,Rl,Rm,Ya,Yb,Yc,Rn,Ro,Xv,Yd,Ye,Rq,Rs,Rt,Ru,Rw,Rx,Ry]
 refine NF hE k1 (by omega) ?_
 simp only[Zm,Zn,Qa,Qb,Qc,Qd,Qe,Qf,Qg,Qh,Qi,Qj,Qk,Ql,Qm,Qn,true_and,and_true,Qo,Qp,Qq,Qr,Qs,Qt,Qu,Qv,Qw,Qx,Qy,Qz,Ra,Rb,Rc,Rd,Re,Rf,Rg,Rh,Ri,Rj,Rk,Rl,Rm,Ya,Yb,Yc,Rn,Ro,Xv,Yd,Ye,Rq,Rs,Rt,Ru,Rw,Rx,Ry]
 refine Pu hE (by omega) hops hb2 hBO _ _ _ _ _ _ _ _ _ _ _ _ _ _ _ _ _ _ _ _ _ e2 (fun y7 y14 y15 s3 O3 w1 w2=>?_) ops.length 0 s2 O _ _ _ (by omega) k1 k2 (DG.refl _ _) (Aj.refl _ _)
 simp only[Qa,Qb,Qc,Qd,Qe,Qf,Qg,Qh,Qi,Qj,Qk,Ql,Qm,Qn,true_and,and_true,Qo,Qp,Qq,Qr,Qs,Qt,Qu,Qv,Qw,Qx,Qy,Qz,Ra,Rb,Rc,Rd,Re,Rf,Rg,Rh,Ri,Rj,Rk,Rl,Rm,Ya,Yb,Yc,Rn,Ro,Xv,Yd,Ye,Rq,Rs,Rt,Ru,Rw,Rx,Ry]
 rw[if_pos trivial]
 simp only[WG,Qa,Qb,Qc,Qd,Qe,Qf,Qg,Qh,Qi,Qj,Qk,Ql,Qm,Qn,true_and,and_true,Qo,Qp,Qq,Qr,Qs,Qt,Qu,Qv,Qw,Qx,Qy,Qz,Ra,Rb,Rc,Rd,Re,Rf,Rg,Rh,Ri,Rj,Rk,Rl,Rm,Ya,Yb,Yc,Rn,Ro,Xv,Yd,Ye,Rq,Rs,Rt,Ru,Rw,Rx,Ry]
 refine Pp hE (by omega) hT k1.ok _ _ _ _ _ _ _ _ (fun v5 y9 y10 y11 y12 y16 y17 y18 y19 y20 y21 y22 y23 y24 y25 y26 y27 s4 O4 x1=>?_) S.length 0 s3 O3 [] _ _ _ _ _ _ _ _ _ _ _ _ _ _ _ _ _ (by omega) w1 w2 (D6.nil _ _ _) (fun j hj=>absurd hj (by simp))
 simp only[Qa,Qb,Qc,Qd,Qe,Qf,Qg,Qh,Qi,Qj,Qk,Ql,Qm,Qn,true_and,and_true,Qo,Qp,Qq,Qr,Qs,Qt,Qu,Qv,Qw,Qx,Qy,Qz,Ra,Rb,Rc,Rd,Re,Rf,Rg,Rh,Ri,Rj,Rk,Rl,Rm,Ya,Yb,Yc,Rn,Ro,Xv,Yd,Ye,Rq,Rs,Rt,Ru,Rw,Rx,Ry]
 rw[if_pos trivial]
 simp only[WX,Qa,Qb,Qc,Qd,Qe,Qf,Qg,Qh,Qi,Qj,Qk,Ql,Qm,Qn,true_and,and_true,Qo,Qp,Qq,Qr,Qs,Qt,Qu,Qv,Qw,Qx,Qy,Qz,Ra,Rb,Rc,Rd,Re,Rf,Rg,Rh,Ri,Rj,Rk,Rl,Rm,Ya,Yb,Yc,Rn,Ro,Xv,Yd,Ye,Rq,Rs,Rt,Ru,Rw,Rx,Ry]
 refine NF hE x1 (by omega) ?_
 have hd:decide ((S.length:Int)=(S.length:Int))=true:=by simp
 simp only[Qa,Qb,Qc,Qd,Qe,Qf,Qg,Qh,Qi,Qj,Qk,Ql,Qm,Qn,true_and,and_true,Qo,Qp,Qq,Qr,Qs,Qt,Qu,Qv,Qw,Qx,Qy,Qz,Ra,Rb,Rc,Rd,Re,Rf,Rg,Rh,Ri,Rj,Rk,Rl,Rm,Ya,Yb,Yc,Rn,Ro,Xv,Yd,Ye,Rq,Rs,Rt,Ru,Rw,Rx,Ry,hd]
 exact hK _
end
end Go.Proofs.YtickdehehcmfbaaGreatDoor.Am
set_option linter.unusedVariables false
set_option linter.unusedSimpArgs false
set_option maxRecDepth 16000
namespace Go.Proofs.YtickdehehcmfbaaGreatDoor.Am
open Go Go.Proofs
noncomputable section
section
variable{H:Type}{enc:TypeId×Value→H}{W:World}{base:Nat}
theorem once14_true(hp:1<W.heap.size∧∀k v,A7[k]? = some v→∃v',W.cell? ⟨1,k,none⟩=some v'∧AL Pv v v'){v0:Value}(h0:Value.okWide Tryz.prog W .any base 22 v0)
  {d0:DataW H} {p0:List MemPlace} (t0:DataW.Trod enc Tryz.prog W 0 (fun _=>true) true 22 v0 d0 p0):
  Calls Tryz.prog 4 #[v0] W fun e W'=>e=.returned (.bool true)∧KF W W':=by
 obtain⟨n0,t0⟩:=t0
 obtain⟨ρ,hd⟩:=PS hp
 obtain⟨ρ1,s1,us1,l,g1,g2,g3,g4,g5⟩:=La Pq Tryz.underlying22 SK (by decide) (fun _ n cs y h _=>M2 n cs y h) t0 (fun a ha=>TY Tryz.underlying22 h0 a ha) hd
 obtain⟨a0,rfl,m1,m2⟩:=NL g5
 have o2:BD 2 (QD 1 A7) s1:=g3
 refine PH g1 (.cons (Tx Tryz.underlying22 h0 g4) .nil) (Po PV ?_ ?_ m1 m2 fun _=>rfl)
 ·rw[BN (o2.2 1 (by omega))];exact Uc
 ·exact bi (by show 1<2;omega) o2.1
end
end
end Go.Proofs.YtickdehehcmfbaaGreatDoor.Am
