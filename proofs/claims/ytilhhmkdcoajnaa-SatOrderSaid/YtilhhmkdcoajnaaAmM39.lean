/- The solver's functions, told by clauses and models; conditions: sizes fit. -/
import Derived.Test.YtilhhmkdcoajnaaAmM38
import Derived.Test.YtilhhmkdcoajnaaAmSatLaw
import Derived.Test.YtilhhmkdcoajnaaAmM32
import Derived.Test.YtilhhmkdcoajnaaAmM35
set_option linter.unusedVariables false
set_option linter.unusedSimpArgs false
set_option maxRecDepth 16000
namespace Go.Proofs.Ytilhhmkdcoajnaa.Am
open Go Go.Proofs
noncomputable section
def SI(n A:Nat)(F:List (List Int))(M:Nat)(v:Sv):Prop:=(∃C,Live n A F C v∧v.limits=[]∧C.length≤M)∨Dead n F M v
def Bd(n A M:Nat):Prop:=n≤1000∧A≤10000∧(3 ^ n≤1900∨M≤1900)
theorem Live.few{n A:Nat}{F:List (List Int)}{C:List Nat}{v:Sv}{M:Nat}(h:Live n A F C v)(hM:C.length≤M)(hb:Bd n A M):C.length≤1900:=by
  rcases hb.2.2 with q | q
  · have:=h.cod.len;omega
  · omega
theorem SI.inv{n A:Nat}{F:List (List Int)}{M:Nat}{v:Sv}(h:SI n A F M v)(hb:Bd n A M):Inv1 n v∧v.limits=[]∧v.trace.length≤1000000∧Tot v.watches≤50000000:=by
  rcases h with⟨C,h1,h2,h3⟩ | h
  · have := h1.few h3 hb
    have:=h1.cod.trc
    have:=h1.cod.tot
    have:=hb.2.1
    exact⟨h1.ci.ct.inv,h2,by omega,by omega⟩
  · exact⟨h.inv.inv,h.lim,h.trc,h.inv.tot⟩
theorem back_lim{v:Sv}(h:v.limits=[]):backV v 0=v:=back_none (by rw[h];exact Nat.le_refl _)
theorem Dead.mono{n:Nat}{F F':List (List Int)}{M M':Nat}{v:Sv}(h:Dead n F M v)(hM:M≤M')(hF:∀σ,Models σ F'→Models σ F):Dead n F' M' v:=
  ⟨h.brk,h.inv,h.lim,h.trc,by have:=h.many;omega,fun σ hσ=>h.no σ (hF σ hσ)⟩
theorem Live.ne{n A:Nat}{F:List (List Int)}{C:List Nat}{v:Sv}(h:Live n A F C v):[] ∉ F:=fun q=>by
  rcases h.ci.cover [] q with⟨y,hy,_⟩ | ⟨c,ls,b,h1,h2⟩
  · cases hy
  · obtain⟨_,c2,_,_⟩:=h.ci.ct.cls c ls b h1
    cases ls with
    | nil=>exact c2 rfl
    | cons y ls=>exact absurd (h2 y (List.mem_cons_self ..)) (by simp)
structure Fresh(k:Nat)(v:Sv):Prop where
  w:v.watches=List.replicate (2 * k) []
  value:v.value=List.replicate k 0
  level:v.level=List.replicate k 0
  why:v.why=List.replicate k none
  heat:v.heat=List.replicate k 0
  phase:v.phase=List.replicate k (-1)
  rest:v.learned=[]∧v.trail=[]∧v.limits=[]∧v.head=0∧v.broken=false∧v.model=[]∧v.trace=[]∧v.many=0∧v.room=2000∧v.cl=fun _=>none
theorem Fresh.one{k:Nat}{v:Sv}(h:Fresh k v):Fresh (k+1) (grow1 v):=by
  have e:∀ {α:Type} (a:α),List.replicate (k+1) a=List.replicate k a++[a]:=fun a=>List.replicate_succ'
  refine⟨?_,?_,?_,?_,?_,?_,h.rest⟩
  · show v.watches++[[],[]]=_
    rw[h.w,show 2 * (k+1)=2 * k+2 by omega,← List.replicate_append_replicate]
    rfl
  · show v.value++[0]=_;rw[h.value,e]
  · show v.level++[0]=_;rw[h.level,e]
  · show v.why++[none]=_;rw[h.why,e]
  · show v.heat++[0]=_;rw[h.heat,e]
  · show v.phase++[-1]=_;rw[h.phase,e]
theorem Fresh.grow:∀ (m:Nat){k:Nat}{v:Sv},Fresh k v→Fresh (k+m) (growN m v)
  | 0,k,v,h=>h
  | m+1,k,v,h=>by
    have:=Fresh.grow m h.one
    rw[show k+(m+1)=k+1+m by omega]
    exact this
theorem fresh_new(n:Nat):Fresh (n+1) (growV newV n):=by
  have h0:Fresh 0 newV:=⟨rfl,rfl,rfl,rfl,rfl,rfl,rfl,rfl,rfl,rfl,rfl,rfl,rfl,rfl,rfl,rfl⟩
  have:=h0.grow (n+1)
  rw[Nat.zero_add]at this
  exact this
theorem getD_rep{α:Type}(m k:Nat)(a:α):(List.replicate m a).getD k a=a:=by
  rw[List.getD_eq_getElem?_getD,List.getElem?_replicate]
  split<;>rfl
theorem Fresh.live {n : Nat} (hn : n < 100000000) {v : Sv} (h : Fresh (n + 1) v) : Live n 0 [] [] v ∧ v.limits = [] := by
  obtain⟨r1,r2,r3,r4,r5,r6,r7,r8,r9,r10⟩:=h.rest
  have hw:∀k,v.watches.getD k []=[]:=fun k=>by rw[h.w];exact getD_rep _ _ _
  have hi:Inv1 n v:=by
    refine⟨⟨⟨hn,by rw[h.w,List.length_replicate];omega,by rw[h.value,List.length_replicate],by rw[h.level,List.length_replicate],by rw[h.why,List.length_replicate],by rw[h.heat,List.length_replicate],by rw[h.phase,List.length_replicate],by rw[r2];exact Nat.zero_le _,by rw[r3];exact Nat.zero_le _⟩,fun x hx=>?_,by rw[r2];simp,by rw[r3];simp⟩,by rw[r2];simp,by rw[r2];simp,fun k _=>by rw[h.value];exact getD_rep _ _ _,fun L hL c hc=>?_⟩
    · rw[h.value]at hx
      have:=List.eq_of_mem_replicate hx
      exact .inr (.inl this)
    · rw [h.w] at hL
      rw[List.eq_of_mem_replicate hL]at hc
      cases hc
  have hcl:∀c l,v.cl c=some l→False:=fun c l hc=>by rw[r10]at hc;cases hc
  refine⟨⟨r5,⟨⟨hi,by rw[r3];exact List.Pairwise.nil,by rw[r3];simp,by rw[r2];simp,by rw[r2];simp,fun c ls b hc=>(hcl _ _ hc).elim⟩,⟨fun c ls b hc=>(hcl _ _ hc).elim,fun k c ls b _ hc=>(hcl _ _ hc).elim,fun k=>by rw[hw];exact List.Pairwise.nil,fun c ls b hc=>(hcl _ _ hc).elim⟩,by rw[r4];exact Nat.zero_le _,by rw[r3];simp,fun c ls b hc=>(hcl _ _ hc).elim,fun j t _ c ls b hc=>(hcl _ _ hc).elim,fun σ _ c ls b hc=>(hcl _ _ hc).elim,by simp,fun k h1 h2=>?_⟩,by rw[r4];exact Int.le_refl _,by rw[r4,r2];exact Int.le_refl _,⟨by simp,by simp,by rw[r8];rfl,by rw[r1];exact Nat.le_refl _,by rw[r7];exact Nat.le_refl _,?_,r9⟩⟩,r3⟩
  · rw[h.phase,List.getD_eq_getElem?_getD,List.getElem?_replicate,if_pos (by omega)]
    exact .inr rfl
  · rw[h.w]
    have:∀m,Tot (List.replicate m [])=0:=fun m=>by
      induction m with
      | zero=>rfl
      | succ m ih =>
        rw[List.replicate_succ]
        show([]:List Nat).length+Tot (List.replicate m [])=0
        rw[ih];rfl
    rw[this]
    exact Nat.zero_le _
theorem new_use{E:Env}(hE:Good E)(ow:Ow){s:ASt}{n:Nat}(hn:n≤1000):
    WF E 40 [iv (n:Int)] (fun r s'=>∃v ow' x',r=ptrA s.next∧SAt ow' s' s.next x' v∧SI n 0 [] 0 v∧v.many=0∧Step (mine s.next) ow s ow' s') s:=by
  refine(new_ok hE ow (n:=n) (by omega)).mono ?_
  rintro _ s' ⟨ow',x',rfl,g1,g2⟩
  obtain⟨h1,h2⟩:=(fresh_new n).live (by omega)
  exact⟨_,ow',x',rfl,g1,.inl ⟨[],h1,h2,Nat.le_refl _⟩,(fresh_new n).rest.2.2.2.2.2.2.2.1,g2⟩
theorem SI.add {n A : Nat} {F : List (List Int)} {M : Nat} {v : Sv} (h : SI n A F M v) (hb : Bd n A M) {f : List Int} (hf : ∀ q ∈ f, VL n q) (hlen : f.length ≤ 12) {v' : Sv} (hr : AddR v f v') : SI n (A + 1) (F ++ [f]) M v' ∧ v'.many = v.many := by
  rcases h with⟨C,h1,h2,h3⟩ | h
  · have hfew:=h1.few h3 hb
    rcases add_ci h1.ci h2 h1.brk hf hlen hr with⟨g1,g2,g3,g4,g5⟩ | ⟨g1,g2,g3,g4,g5,g6⟩
    · refine⟨.inl ⟨C,⟨g1,by rw[g3.head];exact g2,by rw[g3.head];exact h1.h0,by rw[g3.head];have:=h1.h1;omega,⟨h1.cod.nd,fun k hk=>?_,by rw[g3.many];exact h1.cod.many,by rw[g3.learned];exact h1.cod.lrn,by rw[g4];exact h1.cod.trc,by have:=g3.tot;have:=h1.cod.tot;omega,by rw[g3.room];exact h1.cod.room⟩⟩,by rw[g3.limits];exact h2,h3⟩,g3.many⟩
      obtain⟨q1,q2,c,ls,b,q3,q4⟩:=h1.cod.mem k hk
      exact⟨q1,q2,c,ls,b,g3.cl _ _ q3,q4⟩
    · refine ⟨.inr ⟨g1, ⟨g2, ?_, by rw [g3.head]; exact h1.h0, by rw [g3.head, g5]; exact h1.h1⟩, by rw [g3.limits]; exact h2, ?_, ?_, g6⟩, g3.many⟩
      · have := g3.tot
        have:=h1.cod.tot
        have:=hb.2.1
        omega
      · rw[g4]
        have:=h1.cod.trc
        omega
      · rw[g3.many,h1.cod.many]
        omega
  · have e:v'=v:=by
      cases hr with
      | none _=>rfl
      | nil _ hb' _=>rw[h.brk]at hb';cases hb'
      | put _ hb' _ _=>rw[h.brk]at hb';cases hb'
    rw[e]
    exact⟨.inr (h.mono (Nat.le_refl _) fun σ hσ g hg=>hσ g (List.mem_append_left _ hg)),rfl⟩
theorem add_use{E:Env}(hE:Good E){ow:Ow}{s:ASt}{p:Nat}{x:Sf}{v:Sv}(h:SAt ow s p x v){n A:Nat}{F:List (List Int)}{M:Nat}(hI:SI n A F M v)(hbd:Bd n A M){f:List Int}(hf:∀q∈f,VL n q)(hlen:f.length≤12){b:Nat}{u:AV}(hb:b≤s.next)(hu:SliceAt b s u (ivs f))(hus:∀j,slot u=some j→(ow j).1≠p∧j<s.next):
    WF E 36 [ptrA p,u] (fun r s'=>r=iv 0∧∃v' ow' x',SI n (A+1) (F++[f]) M v'∧v'.many=v.many∧SAt ow' s' p x' v'∧Step (mine p) ow s ow' s') s:=by
  obtain⟨i1,i2,i3,i4⟩:=hI.inv hbd
  have hbk:=back_lim i2
  refine(add_ok hE h i1.fit (by rw[hbk];exact i1.fit.val) i3 (by omega) hlen hf hb hu hus).mono ?_
  rintro _ s' ⟨rfl,v',ow',x',g1,g2,g3⟩
  rw[hbk]at g1
  obtain⟨k1,k2⟩:=hI.add hbd hf hlen g1
  exact⟨rfl,v',ow',x',k1,k2,g2,g3⟩
theorem solve_use{E:Env}(hE:Good E){ow:Ow}{s:ASt}{p:Nat}{x:Sf}{v:Sv}(h:SAt ow s p x v){n A:Nat}{F:List (List Int)}{M most:Nat}(hI:SI n A F M v)(hbd:Bd n A (M+most))(hmost:most≤100000)(hF:∀f∈F,∀y∈f,VL n y):
    WF E 34 [ptrA p,iv (most:Int)] (fun r s'=>∃ (c:Int) (v':Sv) (ow':Ow) (x':Sf),r=iv c∧SI n A F (M+most) v'∧(v'.many≤((M+most:Nat):Int))∧(c=0∧(∀σ,¬ Models σ F)∨c=1∧v'.model.length=n+1∧Models (tells v'.model) F∨c=2∧(n≤6→most<729)∧[] ∉ F)∧SAt ow' s' p x' v'∧Step (mine p) ow s ow' s') s:=by
  obtain⟨h1,h2,h3⟩:=hbd
  have start:∃c0,c0≤M∧LoopI n A F c0 most 0 v∧(3 ^ n≤1900∨c0+most≤1900):=by
    rcases hI with⟨C,g1,g2,g3⟩ | g
    · exact⟨C.length,g3,⟨Nat.zero_le _,.inl ⟨C,g1,rfl⟩⟩,h3.imp id fun q=>by omega⟩
    · exact⟨M,Nat.le_refl _,⟨Nat.zero_le _,.inr (g.mono (by omega) fun σ hσ=>hσ)⟩,h3⟩
  obtain⟨c0,s1,s2,s3⟩:=start
  obtain⟨i1,i2,_,_⟩:=hI.inv ⟨h1,h2,h3.imp id fun q=>by omega⟩
  have hbk:=back_lim i2
  refine(solve_ok hE (solve_law (A:=A) (c0:=c0) (most:=most) hF (by omega) s3) (by omega) (by omega) h i1.fit (by rw[hbk];exact s2)).mono ?_
  rintro _ s' ⟨c,v',ow',x',rfl,g1,g2,g3⟩
  rcases g1 with⟨rfl,k⟩ | ⟨rfl,C,k1,k2,k3,k4,k5⟩ | ⟨rfl,C,k1,k2,k3,k4⟩
  · exact⟨0,v',ow',x',rfl,.inr (k.mono (by omega) fun σ hσ=>hσ),by have:=k.many;omega,.inl ⟨rfl,k.no⟩,g2,g3⟩
  · exact⟨1,v',ow',x',rfl,.inl ⟨C,k1,k2,by omega⟩,by rw[k1.cod.many];omega,.inr (.inl ⟨rfl,k4,k5⟩),g2,g3⟩
  · refine⟨2,v',ow',x',rfl,.inl ⟨C,k1,k2,by omega⟩,by rw[k1.cod.many];omega,.inr (.inr ⟨rfl,fun hn=>?_,k1.ne⟩),g2,g3⟩
    have:3 ^ n≤3 ^ 6:=Nat.pow_le_pow_right (by decide) hn
    have e:(3:Nat) ^ 6=729:=rfl
    omega
theorem value_use{E:Env}(hE:Good E){ow:Ow}{s:ASt}{p:Nat}{x:Sf}{v:Sv}(h:SAt ow s p x v){k:Nat}(h1:1≤k):
    WF E 41 [ptrA p,iv (k:Int)] (fun r s'=>r=.bool (tells v.model k)∧s=s') s:=by
  have hne:binA Try.prog .neq 44 (ptrA p) (.ptr none)=some (.bool true):=rfl
  have d1:decide ((0:Int)<(k:Int))=true:=decide_eq_true (by omega)
  have ln:∀s,lenA Try.prog s 23 x.mo=some (iv (v.model.length:Int)):=fun s=>by
    have:=h.model.len Try.underlying23 s
    rw[List.length_map]at this
    exact this
  simp only[ptrA]at hne
  refine hE.go comp41 (by decide) rfl ?_
  by_cases hk:k<v.model.length
  · have d2 : decide ((k : Int) < (v.model.length : Int)) = true := decide_eq_true (by omega)
    have hg:=getD_get (d:=(0:Int)) hk
    have i1:=h.model.addr Try.underlying23 sz3 (k:=k) (by rw[List.length_map];exact hk)
    have i2:=h.model.get (t:=3) ag3 (k:=k) (get_ivs hg)
    simp only[c41,c41o0,c41o1,ptrA,hne,d1,nilCheck_ptr,fa91_11,h.ld_mo,ln,d2,i1,i2,Qa,Qb,Qc,Qd,Qe,Qf,Qg,Qh,Qi,Qj,Qk,Ql,Qm,Qn,true_and,and_true,Qo,Qp,Qq,Qr,Qs,Qt,Qu,Qv,Qw,Qx,Qy,Qz,Ra,Rb,Rc,Rd,Re,Rf,Rg,Rh,Ri,Rj,Rk,Rl,Rm,Ya,Yb,Yc,Rn,Ro,Rp,Yd,Ye,Rq,Rs,Rt,Ru,Rv,Rw,Rx]
    rfl
  · have d2 : decide ((k : Int) < (v.model.length : Int)) = false := decide_eq_false (by omega)
    have e:tells v.model k=false:=by
      unfold tells
      rw[List.getD_eq_getElem?_getD,List.getElem?_eq_none (by omega)]
      rfl
    simp only[c41,c41o0,c41o1,ptrA,hne,d1,nilCheck_ptr,fa91_11,h.ld_mo,ln,d2,Qa,Qb,Qc,Qd,Qe,Qf,Qg,Qh,Qi,Qj,Qk,Ql,Qm,Qn,true_and,and_true,Qo,Qp,Qq,Qr,Qs,Qt,Qu,Qv,Qw,Qx,Qy,Qz,Ra,Rb,Rc,Rd,Re,Rf,Rg,Rh,Ri,Rj,Rk,Rl,Rm,Ya,Yb,Yc,Rn,Ro,Rp,Yd,Ye,Rq,Rs,Rt,Ru,Rv,Rw,Rx]
    rw[e]
def setV(V:Nat→Option Sv)(p:Nat)(v:Sv):Nat→Option Sv:=fun q=>if q=p then some v else V q
theorem setV_same(V:Nat→Option Sv)(p:Nat)(v:Sv):setV V p v p=some v:=if_pos rfl
theorem setV_ne{V:Nat→Option Sv}{p q:Nat}{v:Sv}(h:q≠p):setV V p v q=V q:=if_neg h
theorem setV_set(V:Nat→Option Sv)(p:Nat)(v w:Sv):setV (setV V p v) p w=setV V p w:=by
  funext q
  unfold setV
  split<;>rfl
def Sols(B:Nat→Prop)(s:ASt)(V:Nat→Option Sv):Prop:=∃ow:Ow,(∀p v,V p=some v→∃x,SAt ow s p x v)∧∀j,B j→j<s.next∧V (ow j).1=none
def Keep(B:Nat→Prop)(s s':ASt):Prop:=s.next≤s'.next∧∀j,B j→s'.heap.get j=s.heap.get j
theorem Keep.refl(B:Nat→Prop)(s:ASt):Keep B s s:=⟨Nat.le_refl _,fun _ _=>rfl⟩
theorem Keep.trans{B:Nat→Prop}{s s1 s2:ASt}(h:Keep B s s1)(k:Keep B s1 s2):Keep B s s2:=⟨Nat.le_trans h.1 k.1,fun j hj=>(k.2 j hj).trans (h.2 j hj)⟩
theorem Keep.mono{B B':Nat→Prop}{s s':ASt}(h:Keep B s s')(k:∀j,B' j→B j):Keep B' s s':=⟨h.1,fun j hj=>h.2 j (k j hj)⟩
theorem Sols.less{B B':Nat→Prop}{s:ASt}{V:Nat→Option Sv}(h:Sols B s V)(k:∀j,B' j→B j):Sols B' s V:=by
  obtain⟨ow,h1,h2⟩:=h
  exact⟨ow,h1,fun j hj=>h2 j (k j hj)⟩
theorem Sols.frame{B:Nat→Prop}{s s':ASt}{V:Nat→Option Sv}(h:Sols B s V)(hn:s.next≤s'.next)(hf:∀j,j<s.next→¬ B j→s'.heap.get j=s.heap.get j):Sols (fun j=>B j∨(s.next≤j∧j<s'.next)) s' V:=by
  obtain⟨ow,h1,h2⟩:=h
  have hV:V s.next=none:=by
    cases hv:V s.next with
    | none=>rfl
    | some v =>
      obtain⟨x,hx⟩:=h1 _ v hv
      have:=hx.lt
      omega
  have st:Step (fun t=>V t.1=none) ow s (ext ow s.next (s.next,0,0)) s':=⟨hn,fun x hx _=>ext_lt hx,fun x hx hm=>hf x hx fun q=>hm (h2 x q).2⟩
  refine⟨ext ow s.next (s.next,0,0),fun p v hp=>?_,fun j hj=>?_⟩
  · obtain⟨x,hx⟩:=h1 p v hp
    exact⟨x,hx.keep st fun t ht e=>by rw[e,hp]at ht;cases ht⟩
  · rcases hj with q | ⟨q1, q2⟩
    · obtain⟨r1,r2⟩:=h2 j q
      exact⟨by omega,by rw[ext_lt r1];exact r2⟩
    · exact⟨q2,by rw[ext_ge q1];exact hV⟩
theorem Sols.old{B:Nat→Prop}{s s':ASt}{V:Nat→Option Sv}(h:Sols B s V)(ho:Old s.next s s'):Sols (fun j=>B j∨(s.next≤j∧j<s'.next)) s' V:=h.frame ho.1 fun j hj _=>ho.2 j hj
theorem Keep.old{B:Nat→Prop}{s s':ASt}{V:Nat→Option Sv}(h:Sols B s V)(ho:Old s.next s s'):Keep B s s':=by
  obtain⟨ow,_,h2⟩:=h
  exact⟨ho.1,fun j hj=>ho.2 j (h2 j hj).1⟩
theorem Sols.used{B:Nat→Prop}{s s':ASt}{V:Nat→Option Sv}{ow ow':Ow}{p:Nat}{v v':Sv}{x':Sf}(h1:∀p v,V p=some v→∃x,SAt ow s p x v)(h2:∀j,B j→j<s.next∧V (ow j).1=none)(hp:V p=some v)(hs:SAt ow' s' p x' v')(st:Step (mine p) ow s ow' s'):Sols B s' (setV V p v')∧Keep B s s':=by
  have hn:=st.next
  have hB:∀j,B j→¬ mine p (ow j):=fun j hj q=>by
    have q:(ow j).1=p:=q
    have:=(h2 j hj).2
    rw[q,hp]at this
    cases this
  refine⟨⟨ow',fun q w hq=>?_,fun j hj=>?_⟩,hn,fun j hj=>st.heap j (h2 j hj).1 (hB j hj)⟩
  · by_cases e : q = p
    · rw[e,setV_same]at hq
      injection hq with hq
      rw[← hq,e]
      exact⟨x',hs⟩
    · rw[setV_ne e]at hq
      obtain⟨x,hx⟩:=h1 q w hq
      exact⟨x,hx.keep st fun t ht e'=>by rw[show t.1=p from ht]at e';exact e e'.symm⟩
  · obtain⟨r1,r2⟩:=h2 j hj
    refine⟨by omega,?_⟩
    rw[st.tags j r1 (hB j hj)]
    have:(ow j).1≠p:=fun q=>hB j hj q
    rw[setV_ne this]
    exact r2
theorem sols_new{E:Env}(hE:Good E){B:Nat→Prop}{s:ASt}{V:Nat→Option Sv}(h:Sols B s V){n:Nat}(hn:n≤1000):
    WF E 40 [iv (n:Int)] (fun r s'=>∃v,r=ptrA s.next∧V s.next=none∧Sols B s' (setV V s.next v)∧Keep B s s'∧SI n 0 [] 0 v∧v.many=0) s:=by
  obtain⟨ow,h1,h2⟩:=h
  have hV:∀q,s.next≤q→V q=none:=fun q hq=>by
    cases hv:V q with
    | none=>rfl
    | some v =>
      obtain⟨x,hx⟩:=h1 _ v hv
      have:=hx.lt
      omega
  have st1:Step (fun t=>V t.1=none) ow s (fun j=>match V (ow j).1 with | none=>(s.next+1,0,0) | some _=>ow j) s:=⟨Nat.le_refl _,fun x hx hm=>by
    cases hv:V (ow x).1 with
    | none=>exact absurd hv hm
    | some v=>simp only[hv],fun _ _ _=>rfl⟩
  have h1':∀p v,V p=some v→∃x,SAt (fun j=>match V (ow j).1 with | none=>(s.next+1,0,0) | some _=>ow j) s p x v:=fun p v hp=>by
    obtain⟨x,hx⟩:=h1 p v hp
    exact⟨x,hx.keep st1 fun t ht e=>by rw[e,hp]at ht;cases ht⟩
  have h2':∀j,B j→j<s.next∧((fun j=>match V (ow j).1 with | none=>(s.next+1,0,0) | some _=>ow j:Ow) j)=(s.next+1,0,0):=fun j hj=>by
    obtain⟨r1,r2⟩:=h2 j hj
    exact⟨r1,by simp only[r2]⟩
  generalize (fun j=>match V (ow j).1 with | none=>(s.next+1,0,0) | some _=>ow j:Ow)=ow1 at *
  refine(new_use hE ow1 hn).mono ?_
  rintro _ s' ⟨v,ow',x',rfl,g1,g2,g3,g4⟩
  have hB:∀j,B j→¬ mine s.next (ow1 j):=fun j hj q=>by
    have q:(ow1 j).1=s.next:=q
    rw[(h2' j hj).2]at q
    exact absurd q (by show s.next+1≠s.next;omega)
  have hnx:=g4.next
  refine⟨v,rfl,hV _ (Nat.le_refl _),⟨ow',fun q w hq=>?_,fun j hj=>?_⟩,⟨hnx,fun j hj=>g4.heap j (h2' j hj).1 (hB j hj)⟩,g2,g3⟩
  · by_cases e : q = s.next
    · rw[e,setV_same]at hq
      injection hq with hq
      rw[← hq,e]
      exact⟨x',g1⟩
    · rw[setV_ne e]at hq
      obtain⟨x,hx⟩:=h1' q w hq
      exact⟨x,hx.keep g4 fun t ht e'=>by rw[show t.1=s.next from ht]at e';exact e e'.symm⟩
  · obtain⟨r1,r2⟩:=h2' j hj
    refine⟨by omega,?_⟩
    rw[g4.tags j r1 (hB j hj),r2,setV_ne (by show s.next+1≠s.next;omega)]
    exact hV _ (by omega)
def InB(B:Nat→Prop)(u:AV):Prop:=∀j,slot u=some j→B j
theorem sols_add{E:Env}(hE:Good E){B:Nat→Prop}{s:ASt}{V:Nat→Option Sv}(h:Sols B s V){p:Nat}{v:Sv}(hp:V p=some v){n A:Nat}{F:List (List Int)}{M:Nat}(hI:SI n A F M v)(hbd:Bd n A M){f:List Int}(hf:∀q∈f,VL n q)(hlen:f.length≤12){b:Nat}{u:AV}(hb:b≤s.next)(hu:SliceAt b s u (ivs f))(hus:InB B u):
    WF E 36 [ptrA p,u] (fun r s'=>r=iv 0∧∃v',SI n (A+1) (F++[f]) M v'∧v'.many=v.many∧Sols B s' (setV V p v')∧Keep B s s') s:=by
  obtain⟨ow,h1,h2⟩:=h
  obtain⟨x,hx⟩:=h1 p v hp
  refine(add_use hE hx hI hbd hf hlen hb hu fun j hj=>?_).mono ?_
  · obtain⟨r1,r2⟩:=h2 j (hus j hj)
    exact⟨fun q=>(by rw[q,hp]at r2;cases r2),r1⟩
  rintro _ s' ⟨rfl,v',ow',x',g1,g2,g3,g4⟩
  obtain⟨k1,k2⟩:=Sols.used h1 h2 hp g3 g4
  exact⟨rfl,v',g1,g2,k1,k2⟩
theorem sols_solve{E:Env}(hE:Good E){B:Nat→Prop}{s:ASt}{V:Nat→Option Sv}(h:Sols B s V){p:Nat}{v:Sv}(hp:V p=some v){n A:Nat}{F:List (List Int)}{M most:Nat}(hI:SI n A F M v)(hbd:Bd n A (M+most))(hmost:most≤100000)(hF:∀f∈F,∀y∈f,VL n y):
    WF E 34 [ptrA p,iv (most:Int)] (fun r s'=>∃ (c:Int) (v':Sv),r=iv c∧SI n A F (M+most) v'∧(v'.many≤((M+most:Nat):Int))∧(c=0∧(∀σ,¬ Models σ F)∨c=1∧v'.model.length=n+1∧Models (tells v'.model) F∨c=2∧(n≤6→most<729)∧[] ∉ F)∧Sols B s' (setV V p v')∧Keep B s s') s:=by
  obtain⟨ow,h1,h2⟩:=h
  obtain⟨x,hx⟩:=h1 p v hp
  refine(solve_use hE hx hI hbd hmost hF).mono ?_
  rintro _ s' ⟨c,v',ow',x',rfl,g1,g2,g3,g4,g5⟩
  obtain⟨k1,k2⟩:=Sols.used h1 h2 hp g4 g5
  exact⟨c,v',rfl,g1,g2,g3,k1,k2⟩
theorem sols_value{E:Env}(hE:Good E){B:Nat→Prop}{s:ASt}{V:Nat→Option Sv}(h:Sols B s V){p:Nat}{v:Sv}(hp:V p=some v){k:Nat}(h1:1≤k):
    WF E 41 [ptrA p,iv (k:Int)] (fun r s'=>r=.bool (tells v.model k)∧s=s') s:=by
  obtain⟨ow,g1,g2⟩:=h
  obtain⟨x,hx⟩:=g1 p v hp
  exact value_use hE hx h1
theorem sols_vars{E:Env}(hE:Good E){B:Nat→Prop}{s:ASt}{V:Nat→Option Sv}(h:Sols B s V){p:Nat}{v:Sv}(hp:V p=some v){n:Nat}(hn:n<100000000)(hv:v.value.length=n+1):WF E 47 [ptrA p] (fun r s'=>r=iv (n:Int)∧s=s') s:=by
  obtain⟨ow,g1,g2⟩:=h
  obtain⟨x,hx⟩:=g1 p v hp
  exact vars_ok hE hx hn hv
theorem sols_none(s:ASt):Sols (fun j=>j<s.next) s fun _=>none:=⟨fun _=>(0,0,0),fun p v hp=>(by cases hp),fun j hj=>⟨hj,rfl⟩⟩
def RowsIn(B:Nat→Prop)(s:ASt)(v:AV)(cs:List (List Int)):Prop:=∃us:List AV,SliceAt s.next s v us∧InB B v∧RowCells s.next s us cs∧∀u∈us,InB B u
theorem RowsIn.keep{B:Nat→Prop}{s s':ASt}{v:AV}{cs:List (List Int)}(h:RowsIn B s v cs)(k:Keep B s s'):RowsIn B s' v cs:=by
  obtain⟨us,h1,h2,h3,h4⟩:=h
  exact⟨us,(h1.keep fun j hj=>k.2 j (h2 j hj)).mono k.1,h2,(h3.keep fun u hu j hj=>k.2 j (h4 u hu j hj)).mono k.1,h4⟩
theorem RowsIn.len{B:Nat→Prop}{s:ASt}{v:AV}{cs:List (List Int)}(h:RowsIn B s v cs)(s':ASt):lenA Try.prog s' 22 v=some (iv (cs.length:Int)):=by
  obtain⟨us,h1,h2,h3,h4⟩:=h
  rw[← h3.1]
  exact h1.len Try.underlying22 s'
theorem RowsIn.row{B:Nat→Prop}{s:ASt}{v:AV}{cs:List (List Int)}(h:RowsIn B s v cs){k:Nat}{L:List Int}(hk:cs[k]? = some L):∃a u,indexAddrA Try.prog 22 v (iv (k:Int))=some a∧loadV Try.prog s 23 a=some u∧SliceAt s.next s u (ivs L)∧InB B u:=by
  obtain⟨us,h1,h2,h3,h4⟩:=h
  obtain⟨u,q1,q2⟩:=h3.2 k L hk
  obtain⟨a,cap,rfl,hc⟩:=h1
  obtain⟨i,o,rfl,hi,hl⟩:=hc k u q1
  refine⟨_,u,idx_slice Try.underlying22 sz23 (by have:=lt_of_get q1;exact this),load_one ag23 (by rw[Nat.mul_one];exact hl),q2,h4 u (List.mem_of_getElem? q1)⟩
abbrev u8v(n:Int):AV:=.int .u8 n
abbrev u8vs(l:List Int):List AV:=l.map u8v
def U8s(l:List Int):Prop:=∀x∈l,u8 x
theorem bin_eql8(a b:Int):binA Try.prog .eql 5 (u8v a) (u8v b)=some (.bool (decide (a=b))):=by
  show some (AV.bool (eqI a b))=_
  rw[eqI_eq];rfl
theorem bin_quo8{a:Int}(h:u8 a):binA Try.prog .quo 5 (u8v a) (u8v 2)=some (u8v (a / 2)):=by
  obtain⟨h1,h2⟩:=h
  have e:IntKind.u8.wrap (a.tdiv 2)=a / 2:=by
    rw[← wrapA_eq,Int.tdiv_eq_ediv_of_nonneg h1]
    exact wrapA_of (in_u8 ⟨by omega,by omega⟩)
  show guardB (sameKind .u8 .u8) ((runP Try.prog (Op.intDiv .quo .u8 a 2)).bind ofValue)=_
  have hk:sameKind .u8 .u8=true:=rfl
  rw[hk]
  unfold Op.intDiv
  rw[if_neg (by decide)]
  dsimp only
  rw[e]
  rfl
theorem get_u8vs{l:List Int}{k:Nat}{x:Int}(h:l[k]? = some x):(u8vs l)[k]? = some (u8v x):=by rw[List.getElem?_map,h];rfl
theorem draw_loop {E : Env} (hE : Good E) {n1 n most size : Nat} {s1 : ASt} (hn1 : n1 ≤ s1.next) (hn0 : 1 ≤ n) (hn : n ≤ 1000) (hsize : size ≤ 4) {bs : List Int} (hbs : U8s bs) (hlen : bs.length < 9223372036854775808) {a : Option (Nat × Nat)} {cap : Option Nat} (hc : CellsAt n1 s1 a (u8vs bs)) (v3 v4 v10 v11 v14 : AV) {Q : ARes → Prop} :
    ∀ (m k i : Nat) (out : List Int) (O : List Nat) (v7 : AV) (s : ASt) (x9 x12 x13 : AV), m = size - k → k ≤ size → i ≤ bs.length → out.length = k → (∀ x ∈ out, VL n x) → Dest s v7 out.length 1 (ivs out) O → ((∀ j ∈ O, n1 ≤ j) ∧ ∀ j, slot v7 = some j → n1 ≤ j) → Old n1 s1 s →
      (∀s' v' out' O' i' y8 y9 y12 y13,i≤i'→i'≤bs.length→(∀x∈out',VL n x)→out'.length≤4→Dest s' v' out'.length 1 (ivs out') O'→((∀j∈O',n1≤j)∧∀j,slot v'=some j→n1≤j)→Old n1 s1 s'→Q ⟨.exit 2,[iv (n:Int),.slice a bs.length cap,iv (most:Int),v3,v4,iv ((i':Nat):Int),iv (size:Int),v',y8,y9,v10,v11,y12,y13,v14],[],s'⟩) →
      WC E none (.loop c31l17) Q [iv (n:Int),.slice a bs.length cap,iv (most:Int),v3,v4,iv (i:Int),iv (size:Int),v7,iv (k:Int),x9,v10,v11,x12,x13,v14] [] s:=by
  intro m
  induction m with
  | zero =>
    intro k i out O v7 s x9 x12 x13 hm hk hi ho hv hd hO hold hq
    have hke:k=size:=by omega
    subst hke
    refine WC.loop' ?_
    simp only[c31l17,c31o10,Int.lt_irrefl,decide_false,Qa,Qb,Qc,Qd,Qe,Qf,Qg,Qh,Qi,Qj,Qk,Ql,Qm,Qn,true_and,and_true,Qo,Qp,Qq,Qr,Qs,Qt,Qu,Qv,Qw,Qx,Qy,Qz,Ra,Rb,Rc,Rd,Re,Rf,Rg,Rh,Ri,Rj,Rk,Rl,Rm,Ya,Yb,Yc,Rn,Ro,Rp,Yd,Ye,Rq,Rs,Rt,Ru,Rv,Rw,Rx]
    exact hq s v7 out O i _ _ _ _ (Nat.le_refl _) hi hv (by omega) hd hO hold
  | succ m ih =>
    intro k i out O v7 s x9 x12 x13 hm hk hi ho hv hd hO hold hq
    have hks:decide ((k:Int)<(size:Int))=true:=decide_eq_true (by omega)
    refine WC.loop' ?_
    by_cases hlt:i<bs.length
    · have hx : bs[i]? = some bs[i] := List.getElem?_eq_getElem hlt
      have hxi:=hbs bs[i] (List.getElem_mem _)
      obtain⟨hx1,hx2⟩:=hxi
      obtain⟨p,o,rfl,hp,hload⟩:=hc i _ (get_u8vs hx)
      have e1:=idx_slice (cap:=cap) (i:=p) (o:=o) Try.underlying42 sz5 hlt
      have ld:loadV Try.prog s 5 (.ptr (some (p,o+i * 1)))=some (u8v bs[i]):=load_one ag5 (by rw[Nat.mul_one,load1_eq (hold.2 p hp)];exact hload)
      have hkk:decide ((i:Int)<(bs.length:Int))=true:=decide_eq_true (by omega)
      have e3:=bin_add Try.prog 3 (i:Int) 1 ⟨by omega,by omega⟩
      have e3':((i:Int)+1)=((i+1:Nat):Int):=by omega
      have e4:=bin_add Try.prog 3 (k:Int) 1 ⟨by omega,by omega⟩
      have e4':((k:Int)+1)=((k+1:Nat):Int):=by omega
      have q1:=bin_quo8 (a:=bs[i]) ⟨hx1,hx2⟩
      have q2:convA Try.prog s 5 3 (u8v (bs[i] / 2))=some (iv (bs[i] / 2)):=conv_u8 ⟨by omega,by omega⟩
      have q3:=bin_rem (P:=Try.prog) (t:=3) (k:=.i64) (a:=bs[i] / 2) (b:=(n:Int)) (by omega) (by omega)
      have r1:=Int.emod_nonneg (bs[i] / 2) (show(n:Int)≠0 by omega)
      have r2:=Int.emod_lt_of_pos (bs[i] / 2) (show(0:Int)<(n:Int) by omega)
      have q4:=bin_add Try.prog 3 1 (bs[i] / 2 % (n:Int)) ⟨by omega,by omega⟩
      have q5:=bin_rem (P:=Try.prog) (t:=5) (k:=.u8) (a:=bs[i]) (b:=2) hx1 (by decide)
      generalize hw:1+bs[i] / 2 % (n:Int)=w at *
      have q6:=un_neg Try.prog w ⟨by omega,by omega⟩
      have b1:∀y:Int,sliceRowA Try.prog 23 1 (zipIdx [0] [iv y])=some (mkRow 3 1 [iv y]):=fun y=>bld_one Try.underlying23 sz3 zr3 rfl rfl
      have hmv:∀ (m:Nat) (i:Nat),Made.val i (.slice m)=.slice (some (i,0)) m (some m):=fun _ _=>rfl
      have go:∀ (y:Int) (w9 w12 w13:AV),VL n y→∃v' s',appendA Try.prog (newObj s (mkRow 3 1 [iv y])) [23,23] [v7,.slice (some (s.next,0)) 1 (some 1)]=some (v',s')∧WC E none (.loop c31l17) Q [iv (n:Int),.slice (some (p,o)) bs.length cap,iv (most:Int),v3,v4,iv ((i+1:Nat):Int),iv (size:Int),v',iv ((k+1:Nat):Int),w9,v10,v11,w12,w13,v14] [] s':=by
        intro y w9 w12 w13 hy
        obtain⟨v',s',O',p1,p2,p3,p4,p5,p6⟩:=push_int' hd (by omega) y
        refine⟨v',s',p1,ih (k+1) (i+1) (out++[y]) O' v' s' _ _ _ (by omega) (by omega) hlt (by simp;omega) (fun x hx=>?_) p2 ⟨fun j hj=>(p5 j hj).elim (hO.1 j) (fun h=>by have:=hold.1;omega),fun j hj=>(p6 j hj).elim (hO.2 j) (fun h=>by have:=hold.1;omega)⟩ (hold.trans ⟨p3,fun j hj=>p4 j (by have:=hold.1;omega) (fun hm=>by have:=hO.1 j hm;omega)⟩) fun s' v' out' O' i' y8 y9 y12 y13 g1=>hq s' v' out' O' i' y8 y9 y12 y13 (by omega)⟩
        rcases List.mem_append.1 hx with h | h
        · exact hv x h
        · rw[List.mem_singleton.1 h];exact hy
      generalize hW:WC E none (CCode.loop c31l17) Q=W at go
      by_cases hodd:bs[i] % 2=1
      · obtain⟨v',s',p1,p2⟩:=go (-w) (iv (-w)) (.bool true) (.bool true) ⟨by omega,by omega⟩
        simp only[c31l17,c31o10,hks,len_slice Try.underlying42,hkk,c31o11,e1,ld,q1,q2,q3,q4,hw,c31o12,q5,bin_eql8,hodd,decide_true,c31o13,q6,c31o14,b1,hmv,p1,c31o15,e3,e3',c31o16,e4,e4',Qa,Qb,Qc,Qd,Qe,Qf,Qg,Qh,Qi,Qj,Qk,Ql,Qm,Qn,true_and,and_true,Qo,Qp,Qq,Qr,Qs,Qt,Qu,Qv,Qw,Qx,Qy,Qz,Ra,Rb,Rc,Rd,Re,Rf,Rg,Rh,Ri,Rj,Rk,Rl,Rm,Ya,Yb,Yc,Rn,Ro,Rp,Yd,Ye,Rq,Rs,Rt,Ru,Rv,Rw,Rx]
        exact p2
      · obtain⟨v',s',p1,p2⟩:=go w (iv w) (.bool true) (.bool false) ⟨by omega,by omega⟩
        simp only[c31l17,c31o10,hks,len_slice Try.underlying42,hkk,c31o11,e1,ld,q1,q2,q3,q4,hw,c31o12,q5,bin_eql8,hodd,decide_false,c31o14,b1,hmv,p1,c31o15,e3,e3',c31o16,e4,e4',Qa,Qb,Qc,Qd,Qe,Qf,Qg,Qh,Qi,Qj,Qk,Ql,Qm,Qn,true_and,and_true,Qo,Qp,Qq,Qr,Qs,Qt,Qu,Qv,Qw,Qx,Qy,Qz,Ra,Rb,Rc,Rd,Re,Rf,Rg,Rh,Ri,Rj,Rk,Rl,Rm,Ya,Yb,Yc,Rn,Ro,Rp,Yd,Ye,Rq,Rs,Rt,Ru,Rv,Rw,Rx]
        exact p2
    · have hkk:decide ((i:Int)<(bs.length:Int))=false:=decide_eq_false (by omega)
      simp only[c31l17,c31o10,hks,len_slice Try.underlying42,hkk,Qa,Qb,Qc,Qd,Qe,Qf,Qg,Qh,Qi,Qj,Qk,Ql,Qm,Qn,true_and,and_true,Qo,Qp,Qq,Qr,Qs,Qt,Qu,Qv,Qw,Qx,Qy,Qz,Ra,Rb,Rc,Rd,Re,Rf,Rg,Rh,Ri,Rj,Rk,Rl,Rm,Ya,Yb,Yc,Rn,Ro,Rp,Yd,Ye,Rq,Rs,Rt,Ru,Rv,Rw,Rx]
      exact hq s v7 out O i _ _ _ _ (Nat.le_refl _) hi hv (by omega) hd hO hold
def Drawn(n:Nat)(cs:List (List Int)):Prop:=∀L∈cs,(∀x∈L,VL n x)∧L.length≤4
theorem drawn_loop {E : Env} (hE : Good E) {s0 : ASt} {b n most : Nat} (hb : b ≤ s0.next) (hn0 : 1 ≤ n) (hn : n ≤ 1000) (hmost : most ≤ 1000) {bs : List Int} (hbs : U8s bs) (hlen : bs.length < 9223372036854775808) {a : Option (Nat × Nat)} {cap : Option Nat} (hc : CellsAt b s0 a (u8vs bs)) (v3 : AV) {Q : ARes → Prop}
    (hq:∀s' v' us' cs' O' y5 y6 y7 y8 y9 y10 y11 y12 y13 y14,Made20 s0.next s' v' us' cs' O'→Drawn n cs'→cs'.length≤most→Old s0.next s0 s'→Q ⟨.exit 0,[iv (n:Int),.slice a bs.length cap,iv (most:Int),v3,v',y5,y6,y7,y8,y9,y10,y11,y12,y13,y14],[],s'⟩):
    ∀ (m i:Nat) (us:List AV) (cs:List (List Int)) (O:List Nat) (v4:AV) (s:ASt) (x6 x7 x8 x9 x10 x11 x12 x13 x14:AV),bs.length - i≤m→i≤bs.length→Made20 s0.next s v4 us cs O→Drawn n cs→cs.length≤most→Old s0.next s0 s →
      WC E none (.loop c31l20) Q [iv (n:Int),.slice a bs.length cap,iv (most:Int),v3,v4,iv (i:Int),x6,x7,x8,x9,x10,x11,x12,x13,x14] [] s:=by
  intro m
  induction m with
  | zero =>
    intro i us cs O v4 s x6 x7 x8 x9 x10 x11 x12 x13 x14 hm hi hmd hdr hle hold
    have hkk:decide ((i:Int)<(bs.length:Int))=false:=decide_eq_false (by omega)
    refine WC.loop' ?_
    simp only[c31l20,c31o3,len_slice Try.underlying42,hkk,Qa,Qb,Qc,Qd,Qe,Qf,Qg,Qh,Qi,Qj,Qk,Ql,Qm,Qn,true_and,and_true,Qo,Qp,Qq,Qr,Qs,Qt,Qu,Qv,Qw,Qx,Qy,Qz,Ra,Rb,Rc,Rd,Re,Rf,Rg,Rh,Ri,Rj,Rk,Rl,Rm,Ya,Yb,Yc,Rn,Ro,Rp,Yd,Ye,Rq,Rs,Rt,Ru,Rv,Rw,Rx]
    exact hq s v4 us cs O _ _ _ _ _ _ _ _ _ _ hmd hdr hle hold
  | succ m ih =>
    intro i us cs O v4 s x6 x7 x8 x9 x10 x11 x12 x13 x14 hm hi hmd hdr hle hold
    have husl:=hmd.rows.1
    have l4:∀s',lenA Try.prog s' 22 v4=some (iv (cs.length:Int)):=fun s'=>by
      obtain⟨a',cap',rfl,_⟩:=hmd.dest.cells
      rw[← husl]
      exact len_slice Try.underlying22
    refine WC.loop' ?_
    by_cases hlt:i<bs.length
    · have hkk:decide ((i:Int)<(bs.length:Int))=true:=decide_eq_true (by omega)
      by_cases hmo:cs.length<most
      · have hmm : decide ((cs.length : Int) < (most : Int)) = true := decide_eq_true (by omega)
        have hx:bs[i]? = some bs[i]:=List.getElem?_eq_getElem hlt
        obtain⟨hx1,hx2⟩:=hbs bs[i] (List.getElem_mem _)
        obtain⟨p,o,rfl,hp,hload⟩:=hc i _ (get_u8vs hx)
        have e1:=idx_slice (cap:=cap) (i:=p) (o:=o) Try.underlying42 sz5 hlt
        have ld:loadV Try.prog s 5 (.ptr (some (p,o+i * 1)))=some (u8v bs[i]):=load_one ag5 (by rw[Nat.mul_one,load1_eq (hold.2 p (by omega))];exact hload)
        have e3:=bin_add Try.prog 3 (i:Int) 1 ⟨by omega,by omega⟩
        have e3':((i:Int)+1)=((i+1:Nat):Int):=by omega
        have q5:=bin_rem (P:=Try.prog) (t:=5) (k:=.u8) (a:=bs[i]) (b:=4) hx1 (by decide)
        have q6:convA Try.prog s 5 3 (u8v (bs[i] % 4))=some (iv (bs[i] % 4)):=conv_u8 ⟨by omega,by omega⟩
        have q7:=bin_add Try.prog 3 1 (bs[i] % 4) ⟨by omega,by omega⟩
        have q8:=bin_rem (P:=Try.prog) (t:=5) (k:=.u8) (a:=bs[i]) (b:=29) hx1 (by decide)
        have hsz:(1:Int)+bs[i] % 4=(((1+bs[i] % 4).toNat:Nat):Int):=by omega
        have hsz4:(1+bs[i] % 4).toNat≤4:=by omega
        generalize (1+bs[i] % 4).toNat=sz at hsz hsz4
        have hns:=hold.1
        have hcu:CellsAt s.next s (some (p,o)) (u8vs bs):=(hc.old hold hb).mono (Nat.le_trans hb hns)
        have hmv:∀ (m:Nat) (i:Nat),Made.val i (.slice m)=.slice (some (i,0)) m (some m):=fun _ _=>rfl
        have rest:∀ (size:Nat) (y11:AV),size≤4→WC E none (.loop c31l17) (InBlock 2 (seqK (Qa E none (.seq (.ops c31o18) (.cond (.var 14) (.ops c31o19) .skip)) (InBlock 1 (seqK (WC E none (.loop c31l20) Q) Q))) (InBlock 1 (seqK (WC E none (.loop c31l20) Q) Q)))) [iv (n:Int),.slice (some (p,o)) bs.length cap,iv (most:Int),v3,v4,iv ((i+1:Nat):Int),iv (size:Int),.slice none 0 (some 0),iv 0,x9,.bool true,y11,x12,x13,x14] [] s:=by
          intro size y11 hsize
          refine draw_loop hE (n1:=s.next) (Nat.le_refl _) hn0 hn hsize hbs hlen hcu _ _ _ _ _ size 0 (i+1) [] [] _ s _ _ _ rfl (Nat.zero_le _) hlt rfl (by simp) (Dest.nil s 1) ⟨(fun j hj=>by cases hj),(fun j hj=>by cases hj)⟩ (Old.refl _ _) ?_
          intro s1 v5 out O5 i' y8 y9 y12 y13 hi1 hi2 hV hol hd5 hO5 hold1
          have l5:∀s',lenA Try.prog s' 23 v5=some (iv (out.length:Int)):=fun s'=>by
            obtain⟨a',cap',rfl,_⟩:=hd5.cells
            exact len_slice Try.underlying23
          have noapp:∀ (y14:AV),WC E none (.loop c31l20) Q [iv (n:Int),.slice (some (p,o)) bs.length cap,iv (most:Int),v3,v4,iv (i':Int),iv (size:Int),v5,y8,y9,.bool true,y11,y12,y13,y14] [] s1:=fun y14=>by
            have hmd1:Made20 s0.next s1 v4 us cs O:=⟨hmd.dest.frame hold1.1 fun j hj=>hold1.2 j (hmd.dest.slot_lt j hj),(hmd.rows.keep fun u hu j hj=>hold1.2 j (hmd.slots u hu j hj).2.1).mono hold1.1,fun u hu j hj=>by obtain⟨g1,g2,g3⟩:=hmd.slots u hu j hj;exact⟨g1,by have:=hold1.1;omega,g3⟩,hmd.own⟩
            exact ih i' us cs O v4 s1 _ _ _ _ _ _ _ _ _ (by omega) hi2 hmd1 hdr hle (hold.trans (hold1.mono hns))
          have app:∀ (y14:AV),Qb E c31o19 (fun V s'=>WC E none (.loop c31l20) Q V [] s') [] [iv (n:Int),.slice (some (p,o)) bs.length cap,iv (most:Int),v3,v4,iv (i':Int),iv (size:Int),v5,y8,y9,.bool true,y11,y12,y13,y14] s1:=by
            intro y14
            have hv5:v5.cells=[v5]:=by obtain⟨a',c',rfl,_⟩:=hd5.cells;rfl
            have b1:=bld_one (P:=Try.prog) (t:=22) (v:=v5) Try.underlying22 sz23 zr23 rfl hv5
            have hslot:=hmd.dest.slot_lt
            have hd3:Dest s1 v4 us.length 1 us O:=hmd.dest.frame hold1.1 fun j hj=>hold1.2 j (hslot j hj)
            obtain⟨v',s2,O',p1,p2,p3,p4,p5⟩:=push_cell (st:=22) (e:=23) (by_:=24) Try.underlying22 sz23 by23 (by decide) (strx 22 23 Try.underlying22) zero23 hd3 (by omega) hd5.isSlice
            simp only[c31o19,b1,hmv,p1,Qa,Qb,Qc,Qd,Qe,Qf,Qg,Qh,Qi,Qj,Qk,Ql,Qm,Qn,true_and,and_true,Qo,Qp,Qq,Qr,Qs,Qt,Qu,Qv,Qw,Qx,Qy,Qz,Ra,Rb,Rc,Rd,Re,Rf,Rg,Rh,Ri,Rj,Rk,Rl,Rm,Ya,Yb,Yc,Rn,Ro,Rp,Yd,Ye,Rq,Rs,Rt,Ru,Rv,Rw,Rx]
            have hOlt:∀j∈O,j<s.next:=hmd.dest.lt
            have hs12:s1.next≤s2.next:=p3
            have hold2:Old s0.next s0 s2:=(hold.trans (hold1.mono hns)).trans ⟨p3,fun j hj=>p4 j (by have:=hold1.1;omega) (fun hm=>by have:=hmd.own j hm;omega)⟩
            have old_slot:∀u∈us,∀j,slot u=some j→s2.heap.get j=s.heap.get j:=by
              intro u hu j hj
              obtain⟨g1,g2,g3⟩:=hmd.slots u hu j hj
              rw[p4 j (by have:=hold1.1;omega) g3]
              exact hold1.2 j g2
            have v5_slot:∀j,slot v5=some j→s2.heap.get j=s1.heap.get j:=by
              intro j hj
              have h1:=hO5.2 j hj
              exact p4 j (hd5.slot_lt j hj) (fun hm=>by have:=hOlt j hm;omega)
            refine ih i' (us++[v5]) (cs++[out]) O' v' s2 _ _ _ _ _ _ _ _ _ (by omega) hi2 ⟨?_,?_,?_,?_⟩ (fun L hL=>?_) (by rw[List.length_append];simp;omega) hold2
            · rw[List.length_append];exact p2
            · refine((hmd.rows.keep old_slot).mono (Nat.le_trans hold1.1 hs12)).append (RowCells.one ?_)
              exact((hd5.slice).keep v5_slot).mono hs12
            · intro u hu j hj
              have hO'j:j<s1.next→j ∉ O→j ∉ O':=fun h1 h2 h3=>(p5 j h3).elim h2 (fun h=>by omega)
              rcases List.mem_append.1 hu with hu | hu
              · obtain⟨g1,g2,g3⟩:=hmd.slots u hu j hj
                exact⟨g1,by have:=hold1.1;omega,hO'j (by have:=hold1.1;omega) g3⟩
              · have:u=v5:=by simpa using hu
                subst this
                have h1:=hO5.2 j hj
                have h2:=hd5.slot_lt j hj
                exact⟨by omega,by omega,hO'j h2 (fun hm=>by have:=hOlt j hm;omega)⟩
            · intro j hj
              exact(p5 j hj).elim (hmd.own j) (fun h=>by have:=hold1.1;omega)
            · rcases List.mem_append.1 hL with h | h
              · exact hdr L h
              · rw[List.mem_singleton.1 h];exact⟨hV,hol⟩
          simp only[if_true,Qa,Qb,Qc,Qd,Qe,Qf,Qg,Qh,Qi,Qj,Qk,Ql,Qm,Qn,true_and,and_true,Qo,Qp,Qq,Qr,Qs,Qt,Qu,Qv,Qw,Qx,Qy,Qz,Ra,Rb,Rc,Rd,Re,Rf,Rg,Rh,Ri,Rj,Rk,Rl,Rm,Ya,Yb,Yc,Rn,Ro,Rp,Yd,Ye,Rq,Rs,Rt,Ru,Rv,Rw,Rx]
          by_cases hpos:0<out.length
          · have d1:decide ((0:Int)<(out.length:Int))=true:=decide_eq_true (by omega)
            simp only[c31o18,l5,d1,Qa,Qb,Qc,Qd,Qe,Qf,Qg,Qh,Qi,Qj,Qk,Ql,Qm,Qn,true_and,and_true,Qo,Qp,Qq,Qr,Qs,Qt,Qu,Qv,Qw,Qx,Qy,Qz,Ra,Rb,Rc,Rd,Re,Rf,Rg,Rh,Ri,Rj,Rk,Rl,Rm,Ya,Yb,Yc,Rn,Ro,Rp,Yd,Ye,Rq,Rs,Rt,Ru,Rv,Rw,Rx]
            have:=app (.bool true)
            simp only[c31o19,Qa,Qb,Qc,Qd,Qe,Qf,Qg,Qh,Qi,Qj,Qk,Ql,Qm,Qn,true_and,and_true,Qo,Qp,Qq,Qr,Qs,Qt,Qu,Qv,Qw,Qx,Qy,Qz,Ra,Rb,Rc,Rd,Re,Rf,Rg,Rh,Ri,Rj,Rk,Rl,Rm,Ya,Yb,Yc,Rn,Ro,Rp,Yd,Ye,Rq,Rs,Rt,Ru,Rv,Rw,Rx]at this ⊢
            exact this
          · have d1:decide ((0:Int)<(out.length:Int))=false:=decide_eq_false (by omega)
            by_cases hz:size=0
            · have d2 : decide ((size : Int) = 0) = true := decide_eq_true (by omega)
              have hlt':i' - 1<bs.length:=by omega
              have hx':bs[i' - 1]? = some bs[i' - 1]:=List.getElem?_eq_getElem hlt'
              obtain⟨p',o',ep,hp',hload'⟩:=hc (i' - 1) _ (get_u8vs hx')
              injection ep with ep
              injection ep with ep1 ep2
              subst ep1;subst ep2
              have e1':=idx_slice (cap:=cap) (i:=p) (o:=o) Try.underlying42 sz5 hlt'
              have ld':loadV Try.prog s1 5 (.ptr (some (p,o+(i' - 1) * 1)))=some (u8v bs[i' - 1]):=load_one ag5 (by rw[Nat.mul_one,load1_eq (hold1.2 p (by omega)),load1_eq (hold.2 p (by omega))];exact hload')
              have e5:=bin_sub Try.prog 3 (i':Int) 1 ⟨by omega,by omega⟩
              have e5':(i':Int) - 1=((i' - 1:Nat):Int):=by omega
              by_cases h7:bs[i' - 1]=7
              · simp only[c31o18,l5,d1,d2,e5,e5',e1',ld',bin_eql8,h7,decide_true,Qa,Qb,Qc,Qd,Qe,Qf,Qg,Qh,Qi,Qj,Qk,Ql,Qm,Qn,true_and,and_true,Qo,Qp,Qq,Qr,Qs,Qt,Qu,Qv,Qw,Qx,Qy,Qz,Ra,Rb,Rc,Rd,Re,Rf,Rg,Rh,Ri,Rj,Rk,Rl,Rm,Ya,Yb,Yc,Rn,Ro,Rp,Yd,Ye,Rq,Rs,Rt,Ru,Rv,Rw,Rx]
                have:=app (.bool true)
                simp only[c31o19,Qa,Qb,Qc,Qd,Qe,Qf,Qg,Qh,Qi,Qj,Qk,Ql,Qm,Qn,true_and,and_true,Qo,Qp,Qq,Qr,Qs,Qt,Qu,Qv,Qw,Qx,Qy,Qz,Ra,Rb,Rc,Rd,Re,Rf,Rg,Rh,Ri,Rj,Rk,Rl,Rm,Ya,Yb,Yc,Rn,Ro,Rp,Yd,Ye,Rq,Rs,Rt,Ru,Rv,Rw,Rx]at this ⊢
                exact this
              · simp only[c31o18,l5,d1,d2,e5,e5',e1',ld',bin_eql8,h7,decide_false,Qa,Qb,Qc,Qd,Qe,Qf,Qg,Qh,Qi,Qj,Qk,Ql,Qm,Qn,true_and,and_true,Qo,Qp,Qq,Qr,Qs,Qt,Qu,Qv,Qw,Qx,Qy,Qz,Ra,Rb,Rc,Rd,Re,Rf,Rg,Rh,Ri,Rj,Rk,Rl,Rm,Ya,Yb,Yc,Rn,Ro,Rp,Yd,Ye,Rq,Rs,Rt,Ru,Rv,Rw,Rx]
                exact noapp _
            · have d2:decide ((size:Int)=0)=false:=decide_eq_false (by omega)
              simp only[c31o18,l5,d1,d2,Qa,Qb,Qc,Qd,Qe,Qf,Qg,Qh,Qi,Qj,Qk,Ql,Qm,Qn,true_and,and_true,Qo,Qp,Qq,Qr,Qs,Qt,Qu,Qv,Qw,Qx,Qy,Qz,Ra,Rb,Rc,Rd,Re,Rf,Rg,Rh,Ri,Rj,Rk,Rl,Rm,Ya,Yb,Yc,Rn,Ro,Rp,Yd,Ye,Rq,Rs,Rt,Ru,Rv,Rw,Rx]
              exact noapp _
        generalize hW:WC E none (CCode.loop c31l20) Q=W at rest
        by_cases h29:bs[i] % 29=7
        · have:=rest 0 (.bool true) (by omega)
          simp only[c31l20,c31o3,len_slice Try.underlying42,hkk,l4,hmm,c31o4,e1,ld,q5,q6,q7,c31o5,q8,bin_eql8,h29,decide_true,c31o6,c31o7,e3,e3',c31o8,c31o9,Qa,Qb,Qc,Qd,Qe,Qf,Qg,Qh,Qi,Qj,Qk,Ql,Qm,Qn,true_and,and_true,Qo,Qp,Qq,Qr,Qs,Qt,Qu,Qv,Qw,Qx,Qy,Qz,Ra,Rb,Rc,Rd,Re,Rf,Rg,Rh,Ri,Rj,Rk,Rl,Rm,Ya,Yb,Yc,Rn,Ro,Rp,Yd,Ye,Rq,Rs,Rt,Ru,Rv,Rw,Rx]at this ⊢
          exact this
        · have:=rest sz (.bool false) hsz4
          simp only[c31l20,c31o3,len_slice Try.underlying42,hkk,l4,hmm,c31o4,e1,ld,q5,q6,q7,hsz,c31o5,q8,bin_eql8,h29,decide_false,c31o7,e3,e3',c31o8,c31o9,Qa,Qb,Qc,Qd,Qe,Qf,Qg,Qh,Qi,Qj,Qk,Ql,Qm,Qn,true_and,and_true,Qo,Qp,Qq,Qr,Qs,Qt,Qu,Qv,Qw,Qx,Qy,Qz,Ra,Rb,Rc,Rd,Re,Rf,Rg,Rh,Ri,Rj,Rk,Rl,Rm,Ya,Yb,Yc,Rn,Ro,Rp,Yd,Ye,Rq,Rs,Rt,Ru,Rv,Rw,Rx]at this ⊢
          exact this
      · have hmm:decide ((cs.length:Int)<(most:Int))=false:=decide_eq_false (by omega)
        simp only[c31l20,c31o3,len_slice Try.underlying42,hkk,l4,hmm,Qa,Qb,Qc,Qd,Qe,Qf,Qg,Qh,Qi,Qj,Qk,Ql,Qm,Qn,true_and,and_true,Qo,Qp,Qq,Qr,Qs,Qt,Qu,Qv,Qw,Qx,Qy,Qz,Ra,Rb,Rc,Rd,Re,Rf,Rg,Rh,Ri,Rj,Rk,Rl,Rm,Ya,Yb,Yc,Rn,Ro,Rp,Yd,Ye,Rq,Rs,Rt,Ru,Rv,Rw,Rx]
        exact hq s v4 us cs O _ _ _ _ _ _ _ _ _ _ hmd hdr hle hold
    · have hkk:decide ((i:Int)<(bs.length:Int))=false:=decide_eq_false (by omega)
      simp only[c31l20,c31o3,len_slice Try.underlying42,hkk,Qa,Qb,Qc,Qd,Qe,Qf,Qg,Qh,Qi,Qj,Qk,Ql,Qm,Qn,true_and,and_true,Qo,Qp,Qq,Qr,Qs,Qt,Qu,Qv,Qw,Qx,Qy,Qz,Ra,Rb,Rc,Rd,Re,Rf,Rg,Rh,Ri,Rj,Rk,Rl,Rm,Ya,Yb,Yc,Rn,Ro,Rp,Yd,Ye,Rq,Rs,Rt,Ru,Rv,Rw,Rx]
      exact hq s v4 us cs O _ _ _ _ _ _ _ _ _ _ hmd hdr hle hold
theorem drawn_ok{E:Env}(hE:Good E){s:ASt}{b n most:Nat}(hb:b≤s.next)(hn0:1≤n)(hn:n≤1000)(hmost:most≤1000){bs:List Int}(hbs:U8s bs)(hlen:bs.length<9223372036854775808){v:AV}(hv:SliceAt b s v (u8vs bs)):
    WF E 31 [iv (n:Int),v,iv (most:Int)] (fun r s'=>∃us cs O,Made20 s.next s' r us cs O∧Drawn n cs∧cs.length≤most∧Old s.next s s') s:=by
  obtain⟨a,cap,rfl,hc⟩:=hv
  have hl:(u8vs bs).length=bs.length:=List.length_map _
  rw[hl]
  refine hE.go comp31 (by decide) rfl ?_
  simp only[c31,c31o0,c31o1,c31o2,Qa,Qb,Qc,Qd,Qe,Qf,Qg,Qh,Qi,Qj,Qk,Ql,Qm,Qn,true_and,and_true,Qo,Qp,Qq,Qr,Qs,Qt,Qu,Qv,Qw,Qx,Qy,Qz,Ra,Rb,Rc,Rd,Re,Rf,Rg,Rh,Ri,Rj,Rk,Rl,Rm,Ya,Yb,Yc,Rn,Ro,Rp,Yd,Ye,Rq,Rs,Rt,Ru,Rv,Rw,Rx]
  refine drawn_loop hE hb hn0 hn hmost hbs hlen hc _ ?_ bs.length 0 [] [] [] _ s _ _ _ _ _ _ _ _ _ (by omega) (Nat.zero_le _) ⟨Dest.nil s 1,RowCells.nil _ _,(fun u hu=>by cases hu),(fun j hj=>by cases hj)⟩ (by simp[Drawn]) (Nat.zero_le _) (Old.refl _ _)
  intro s' v' us' cs' O' y5 y6 y7 y8 y9 y10 y11 y12 y13 y14 h1 h2 h3 h4
  simp only[if_true,c31o21,Qa,Qb,Qc,Qd,Qe,Qf,Qg,Qh,Qi,Qj,Qk,Ql,Qm,Qn,true_and,and_true,Qo,Qp,Qq,Qr,Qs,Qt,Qu,Qv,Qw,Qx,Qy,Qz,Ra,Rb,Rc,Rd,Re,Rf,Rg,Rh,Ri,Rj,Rk,Rl,Rm,Ya,Yb,Yc,Rn,Ro,Rp,Yd,Ye,Rq,Rs,Rt,Ru,Rv,Rw,Rx]
  exact⟨us',cs',O',h1,h2,h3,h4⟩
theorem Made20.rowsIn{lo:Nat}{s:ASt}{v:AV}{us:List AV}{cs:List (List Int)}{O:List Nat}(h:Made20 lo s v us cs O):RowsIn (fun j=>j<s.next) s v cs:=
  ⟨us,h.dest.slice,fun j hj=>h.dest.slot_lt j hj,h.rows,fun u hu j hj=>(h.slots u hu j hj).2.1⟩
theorem of_loop{E:Env}(hE:Good E){B:Nat→Prop}{s0:ASt}{V:Nat→Option Sv}{n p:Nat}(hn:n≤1000){cs:List (List Int)}(hcs:∀L∈cs,(∀x∈L,VL n x)∧L.length≤12)(hlen:cs.length≤1000){u:AV}(hr:RowsIn B s0 u cs)(v0 v2 x5:AV){Q:ARes→Prop}
    (hq:∀s' v y4 y6 y7,Sols B s' (setV V p v)→Keep B s0 s'→SI n cs.length cs 0 v→v.many=0→Q ⟨.exit 0,[v0,u,v2,ptrA p,y4,x5,y6,y7],[],s'⟩):
    ∀ (l:List (List Int)) (k:Nat) (s:ASt) (v:Sv) (x6 x7:AV),cs.drop k=l→k≤cs.length→Sols B s (setV V p v)→Keep B s0 s→SI n k (cs.take k) 0 v→v.many=0 →
      WC E none (.loop c32l9) Q [v0,u,v2,ptrA p,iv (k:Int),x5,x6,x7] [] s:=by
  intro l
  induction l with
  | nil =>
    intro k s v x6 x7 hd hk hS hK hI hm
    have:=drop_end hd hk
    subst this
    rw[List.take_length]at hI
    have hr':=hr.keep hK
    refine WC.loop' ?_
    simp only[c32l9,c32o5,hr'.len,Int.lt_irrefl,decide_false,Qa,Qb,Qc,Qd,Qe,Qf,Qg,Qh,Qi,Qj,Qk,Ql,Qm,Qn,true_and,and_true,Qo,Qp,Qq,Qr,Qs,Qt,Qu,Qv,Qw,Qx,Qy,Qz,Ra,Rb,Rc,Rd,Re,Rf,Rg,Rh,Ri,Rj,Rk,Rl,Rm,Ya,Yb,Yc,Rn,Ro,Rp,Yd,Ye,Rq,Rs,Rt,Ru,Rv,Rw,Rx]
    exact hq _ v _ _ _ hS hK hI hm
  | cons L l ih =>
    intro k s v x6 x7 hd hk hS hK hI hm
    obtain⟨hlt,hx,hd'⟩:=drop_facts hd
    have hr':=hr.keep hK
    obtain⟨a,w,e1,e2,hu,hB⟩:=hr'.row hx
    have hkk:decide ((k:Int)<(cs.length:Int))=true:=decide_eq_true (by omega)
    have e3:=bin_add Try.prog 3 (k:Int) 1 ⟨by omega,by omega⟩
    have hcast:((k:Int)+1)=((k+1:Nat):Int):=by omega
    obtain⟨h6,h7⟩:=hcs L (List.mem_of_getElem? hx)
    have hadd:=sols_add hE hS (setV_same V p v) hI (hbd:=⟨hn,by omega,.inr (by omega)⟩) h6 h7 (Nat.le_refl _) hu hB
    simp only[ptrA]at hadd
    refine WC.loop' ?_
    generalize hW:WC E none (CCode.loop c32l9) Q=W at ih ⊢
    simp only[c32l9,c32o5,c32o6,ptrA,hr'.len,hkk,e1,e2,Qa,Qb,Qc,Qd,Qe,Qf,Qg,Qh,Qi,Qj,Qk,Ql,Qm,Qn,true_and,and_true,Qo,Qp,Qq,Qr,Qs,Qt,Qu,Qv,Qw,Qx,Qy,Qz,Ra,Rb,Rc,Rd,Re,Rf,Rg,Rh,Ri,Rj,Rk,Rl,Rm,Ya,Yb,Yc,Rn,Ro,Rp,Yd,Ye,Rq,Rs,Rt,Ru,Rv,Rw,Rx]
    refine hadd.mono ?_
    rintro _ s' ⟨rfl,v',g1,g2,g3,g4⟩
    rw[setV_set]at g3
    have hd0:decide ((0:Int)≠0)=false:=by decide
    simp only[hd0,c32o8,e3,hcast,Qa,Qb,Qc,Qd,Qe,Qf,Qg,Qh,Qi,Qj,Qk,Ql,Qm,Qn,true_and,and_true,Qo,Qp,Qq,Qr,Qs,Qt,Qu,Qv,Qw,Qx,Qy,Qz,Ra,Rb,Rc,Rd,Re,Rf,Rg,Rh,Ri,Rj,Rk,Rl,Rm,Ya,Yb,Yc,Rn,Ro,Rp,Yd,Ye,Rq,Rs,Rt,Ru,Rv,Rw,Rx]
    refine ih (k+1) s' v' _ _ hd' hlt g3 (hK.trans g4) ?_ (g2.trans hm)
    have et:cs.take (k+1)=cs.take k++[L]:=by
      rw[List.take_succ_eq_append_getElem hlt]
      rw[List.getElem?_eq_getElem hlt]at hx
      injection hx with hx
      rw[hx]
    rw[et]
    exact g1
theorem of32_ok{E:Env}(hE:Good E){B:Nat→Prop}{s:ASt}{V:Nat→Option Sv}(h:Sols B s V){n:Nat}(hn:n≤1000){cs:List (List Int)}(hcs:∀L∈cs,(∀x∈L,VL n x)∧L.length≤12)(hlen:cs.length≤1000){u:AV}(hr:RowsIn B s u cs):
    WF E 32 [iv (n:Int),u] (fun r s'=>∃p v,r=ptrA p∧V p=none∧Sols B s' (setV V p v)∧Keep B s s'∧SI n cs.length cs 0 v∧v.many=0) s:=by
  refine hE.go comp32 (by decide) rfl ?_
  simp only[c32,c32o0,c32o1,Qa,Qb,Qc,Qd,Qe,Qf,Qg,Qh,Qi,Qj,Qk,Ql,Qm,Qn,true_and,and_true,Qo,Qp,Qq,Qr,Qs,Qt,Qu,Qv,Qw,Qx,Qy,Qz,Ra,Rb,Rc,Rd,Re,Rf,Rg,Rh,Ri,Rj,Rk,Rl,Rm,Ya,Yb,Yc,Rn,Ro,Rp,Yd,Ye,Rq,Rs,Rt,Ru,Rv,Rw,Rx]
  refine(sols_new hE h hn).mono ?_
  rintro _ s1 ⟨v,rfl,hV,g1,g2,g3,g4⟩
  obtain⟨i1,i2,_,_⟩:=g3.inv ⟨hn,by omega,.inr (by omega)⟩
  have hvars:=sols_vars hE g1 (setV_same V s.next v) (n:=n) (by omega) i1.fit.siz.value
  have he:=eq_ptr44 s.next
  have hne:decide ((n:Int)≠(n:Int))=false:=by simp
  simp only[ptrA]at he hvars
  simp only[c32o2,ptrA,he,Qa,Qb,Qc,Qd,Qe,Qf,Qg,Qh,Qi,Qj,Qk,Ql,Qm,Qn,true_and,and_true,Qo,Qp,Qq,Qr,Qs,Qt,Qu,Qv,Qw,Qx,Qy,Qz,Ra,Rb,Rc,Rd,Re,Rf,Rg,Rh,Ri,Rj,Rk,Rl,Rm,Ya,Yb,Yc,Rn,Ro,Rp,Yd,Ye,Rq,Rs,Rt,Ru,Rv,Rw,Rx]
  refine hvars.mono ?_
  rintro _ _ ⟨rfl,rfl⟩
  simp only[hne,c32o4,Qa,Qb,Qc,Qd,Qe,Qf,Qg,Qh,Qi,Qj,Qk,Ql,Qm,Qn,true_and,and_true,Qo,Qp,Qq,Qr,Qs,Qt,Qu,Qv,Qw,Qx,Qy,Qz,Ra,Rb,Rc,Rd,Re,Rf,Rg,Rh,Ri,Rj,Rk,Rl,Rm,Ya,Yb,Yc,Rn,Ro,Rp,Yd,Ye,Rq,Rs,Rt,Ru,Rv,Rw,Rx]
  have:=of_loop hE (V:=V) (p:=s.next) hn hcs hlen (hr.keep g2) (iv (n:Int)) (.ptr none) (.bool false) (Q:=InBlock 0 (seqK (Qa E none (.seq (.ops c32o10) .ret) (Ends Try.prog c32.results (fun r s'=>∃p v,r=ptrA p∧V p=none∧Sols B s' (setV V p v)∧Keep B s s'∧SI n cs.length cs 0 v∧v.many=0))) (Ends Try.prog c32.results (fun r s'=>∃p v,r=ptrA p∧V p=none∧Sols B s' (setV V p v)∧Keep B s s'∧SI n cs.length cs 0 v∧v.many=0))))
    ?_ cs 0 s1 v undefA undefA rfl (Nat.zero_le _) g1 (Keep.refl _ _) g3 g4
  · simp only[ptrA,c32,Qa,Qb,Qc,Qd,Qe,Qf,Qg,Qh,Qi,Qj,Qk,Ql,Qm,Qn,true_and,and_true,Qo,Qp,Qq,Qr,Qs,Qt,Qu,Qv,Qw,Qx,Qy,Qz,Ra,Rb,Rc,Rd,Re,Rf,Rg,Rh,Ri,Rj,Rk,Rl,Rm,Ya,Yb,Yc,Rn,Ro,Rp,Yd,Ye,Rq,Rs,Rt,Ru,Rv,Rw,Rx]at this ⊢
    exact this
  · intro s' v' y4 y6 y7 k1 k2 k3 k4
    simp only[if_true,c32,c32o10,Qa,Qb,Qc,Qd,Qe,Qf,Qg,Qh,Qi,Qj,Qk,Ql,Qm,Qn,true_and,and_true,Qo,Qp,Qq,Qr,Qs,Qt,Qu,Qv,Qw,Qx,Qy,Qz,Ra,Rb,Rc,Rd,Re,Rf,Rg,Rh,Ri,Rj,Rk,Rl,Rm,Ya,Yb,Yc,Rn,Ro,Rp,Yd,Ye,Rq,Rs,Rt,Ru,Rv,Rw,Rx]
    exact⟨s.next,v',rfl,hV,k1,g2.trans k2,k3,k4⟩
theorem bld_pair(x y:Int):sliceRowA Try.prog 23 2 (zipIdx [0,1] [iv x,iv y])=some (mkRow 3 1 [iv x,iv y]):=by
  simp[sliceRowA,Try.underlying23,sz3,guardB,zr3,zipIdx,fillA,AV.cells,rep]
  rfl
theorem row_made{s:ASt}{L:List Int}(hL:L≠[]):SliceAt (s.next+1) (newObj s (mkRow 3 1 (ivs L))) (.slice (some (s.next,0)) L.length (some L.length)) (ivs L)∧∀j,slot (.slice (some (s.next,0)) L.length (some L.length))=some j→j=s.next:=by
  obtain⟨r,h1,h2,h3,h4,h5,h6⟩:=holds_mkRow 3 1 (ivs L)
  refine⟨⟨some (s.next,0),some L.length,by simp,fun k u hk=>⟨s.next,0,rfl,Nat.lt_succ_self _,?_⟩⟩,fun j hj=>?_⟩
  · rw[Nat.zero_add]
    exact load1_row (by rw[heap_new,if_pos rfl,h1]) (by rw[h2.1];exact lt_of_get hk) (h2.2 k u hk)
  · simp[slot]at hj
    exact hj.symm
theorem add_pair{E:Env}(hE:Good E){B:Nat→Prop}{s:ASt}{V:Nat→Option Sv}(h:Sols B s V){p:Nat}{v:Sv}(hp:V p=some v){n A:Nat}{F:List (List Int)}{M:Nat}(hI:SI n A F M v)(hbd:Bd n A M)(x y:Int)(hx:VL n x)(hy:VL n y){K:AV→ASt→Prop}
    (hK:∀s' v',SI n (A+1) (F++[[x,y]]) M v'→Sols B s' (setV V p v')→Keep B s s'→K (iv 0) s'):
    WF E 36 [.ptr (some (p,0)),.slice (some (s.next,0)) 2 (some 2)] K (newObj s (mkRow 3 1 [iv x,iv y])):=by
  have ho:=Old.new s (mkRow 3 1 [iv x,iv y])
  have h1:=h.old ho
  obtain⟨g1,g2⟩:=row_made (s:=s) (L:=[x,y]) (by simp)
  have hk1:=Keep.old h ho
  have hadd:=sols_add hE h1 hp hI hbd (f:=[x,y]) (fun q hq=>by
    rcases List.mem_cons.1 hq with e | e
    · rw[e];exact hx
    · rw[List.mem_singleton.1 e];exact hy) (by simp) (b:=s.next+1) (Nat.le_refl _) g1 (fun j hj=>by rw[g2 j hj];exact .inr ⟨Nat.le_refl _,Nat.lt_succ_self _⟩)
  refine hadd.mono ?_
  rintro _ s' ⟨rfl,v',q1,q2,q3,q4⟩
  exact hK s' v' q1 (q3.less fun j hj=>.inl hj) (hk1.trans (q4.mono fun j hj=>.inl hj))
theorem sat1{σ:Nat→Bool}:(Sat σ 1↔σ 1=true)∧(Sat σ 2↔σ 2=true)∧(Sat σ (-1)↔σ 1=false)∧(Sat σ (-2)↔σ 2=false):=by
  unfold Sat
  refine⟨⟨?_,fun h=>.inl ⟨by decide,h⟩⟩,⟨?_,fun h=>.inl ⟨by decide,h⟩⟩,⟨?_,fun h=>.inr ⟨by decide,h⟩⟩,⟨?_,fun h=>.inr ⟨by decide,h⟩⟩⟩<;>rintro(⟨a,b⟩ | ⟨a,b⟩)<;>first | exact b | omega
theorem models4{σ:Nat→Bool}:Models σ [[1,2],[-1,2],[1,-2]]↔σ 1=true∧σ 2=true:=by
  obtain⟨a,b,c,d⟩:=sat1 (σ:=σ)
  have e:Models σ [[1,2],[-1,2],[1,-2]]↔(Sat σ 1∨Sat σ 2)∧(Sat σ (-1)∨Sat σ 2)∧(Sat σ 1∨Sat σ (-2)):=by simp[Models]
  rw[e,a,b,c,d]
  cases σ 1<;>cases σ 2<;>simp
theorem models5{σ:Nat→Bool}:¬ Models σ [[1,2],[-1,2],[1,-2],[-1,-2]]:=by
  obtain⟨a,b,c,d⟩:=sat1 (σ:=σ)
  have e:Models σ [[1,2],[-1,2],[1,-2],[-1,-2]]↔(Sat σ 1∨Sat σ 2)∧(Sat σ (-1)∨Sat σ 2)∧(Sat σ 1∨Sat σ (-2))∧(Sat σ (-1)∨Sat σ (-2)):=by simp[Models]
  rw[e,a,b,c,d]
  cases σ 1<;>cases σ 2<;>simp
theorem works_ok{E:Env}(hE:Good E){B:Nat→Prop}{s:ASt}{V:Nat→Option Sv}(h:Sols B s V):WF E 37 [] (fun r s'=>r=.bool true∧Keep B s s') s:=by
  have hms:∀ (m:Nat) (i:Nat),Made.val i (.slice m)=.slice (some (i,0)) m (some m):=fun _ _=>rfl
  have hVL:VL 2 1∧VL 2 2∧VL 2 (-1)∧VL 2 (-2):=by decide
  obtain⟨w1,w2,w3,w4⟩:=hVL
  refine hE.go comp37 (by decide) rfl ?_
  simp only[c37,c37o0,c37o1,Qa,Qb,Qc,Qd,Qe,Qf,Qg,Qh,Qi,Qj,Qk,Ql,Qm,Qn,true_and,and_true,Qo,Qp,Qq,Qr,Qs,Qt,Qu,Qv,Qw,Qx,Qy,Qz,Ra,Rb,Rc,Rd,Re,Rf,Rg,Rh,Ri,Rj,Rk,Rl,Rm,Ya,Yb,Yc,Rn,Ro,Rp,Yd,Ye,Rq,Rs,Rt,Ru,Rv,Rw,Rx]
  refine(sols_new hE h (n:=2) (by decide)).mono ?_
  rintro _ s1 ⟨va,rfl,hVn,g1,k1,i1,_⟩
  generalize hp:s.next=p at *
  obtain⟨j1,j2,_,_⟩:=i1.inv ⟨by decide,by decide,.inr (by decide)⟩
  have hvars:=sols_vars hE g1 (setV_same V p va) (n:=2) (by decide) j1.fit.siz.value
  have bd:∀A M,A≤10→Bd 2 A M:=fun A M hA=>⟨by decide,by omega,.inl (by decide)⟩
  have e2:iv ((2:Nat):Int)=iv 2:=rfl
  have hd2:decide ((2:Int)≠2)=false:=by decide
  have h729:∀ (a:Int),iv ((729:Nat):Int)=iv 729:=fun _=>rfl
  simp only[ptrA,e2]at hvars
  simp only[c37o2,ptrA,Qa,Qb,Qc,Qd,Qe,Qf,Qg,Qh,Qi,Qj,Qk,Ql,Qm,Qn,true_and,and_true,Qo,Qp,Qq,Qr,Qs,Qt,Qu,Qv,Qw,Qx,Qy,Qz,Ra,Rb,Rc,Rd,Re,Rf,Rg,Rh,Ri,Rj,Rk,Rl,Rm,Ya,Yb,Yc,Rn,Ro,Rp,Yd,Ye,Rq,Rs,Rt,Ru,Rv,Rw,Rx]
  refine hvars.mono ?_
  rintro _ _ ⟨rfl,rfl⟩
  have hs1:=sols_solve hE g1 (setV_same V p va) i1 (bd 0 (0+729) (by decide)) (most:=729) (by decide) (by simp)
  simp only[ptrA]at hs1
  simp only[hd2,Qa,Qb,Qc,Qd,Qe,Qf,Qg,Qh,Qi,Qj,Qk,Ql,Qm,Qn,true_and,and_true,Qo,Qp,Qq,Qr,Qs,Qt,Qu,Qv,Qw,Qx,Qy,Qz,Ra,Rb,Rc,Rd,Re,Rf,Rg,Rh,Ri,Rj,Rk,Rl,Rm,Ya,Yb,Yc,Rn,Ro,Rp,Yd,Ye,Rq,Rs,Rt,Ru,Rv,Rw,Rx]
  refine hs1.mono ?_
  rintro _ s2 ⟨c,v2,rfl,i2,_,hc,g2,k2⟩
  have hc1:c=1:=by
    rcases hc with⟨_,q⟩ | ⟨q,_⟩ | ⟨_,q,_⟩
    · exact absurd (fun f hf=>by cases hf) (q fun _=>true)
    · exact q
    · exact absurd (q (by decide)) (by decide)
  subst hc1
  rw[setV_set]at g2
  have hd1:decide ((1:Int)≠1)=false:=by decide
  simp only[hd1,c37o4,bld_pair,hms,Qa,Qb,Qc,Qd,Qe,Qf,Qg,Qh,Qi,Qj,Qk,Ql,Qm,Qn,true_and,and_true,Qo,Qp,Qq,Qr,Qs,Qt,Qu,Qv,Qw,Qx,Qy,Qz,Ra,Rb,Rc,Rd,Re,Rf,Rg,Rh,Ri,Rj,Rk,Rl,Rm,Ya,Yb,Yc,Rn,Ro,Rp,Yd,Ye,Rq,Rs,Rt,Ru,Rv,Rw,Rx]
  refine add_pair hE g2 (setV_same V p v2) i2 (bd _ _ (by decide)) 1 2 w1 w2 ?_
  intro s3 v3 i3 g3 k3
  rw[setV_set]at g3
  simp only[c37o5,bld_pair,hms,Qa,Qb,Qc,Qd,Qe,Qf,Qg,Qh,Qi,Qj,Qk,Ql,Qm,Qn,true_and,and_true,Qo,Qp,Qq,Qr,Qs,Qt,Qu,Qv,Qw,Qx,Qy,Qz,Ra,Rb,Rc,Rd,Re,Rf,Rg,Rh,Ri,Rj,Rk,Rl,Rm,Ya,Yb,Yc,Rn,Ro,Rp,Yd,Ye,Rq,Rs,Rt,Ru,Rv,Rw,Rx]
  refine add_pair hE g3 (setV_same V p v3) i3 (bd _ _ (by decide)) (-1) 2 w3 w2 ?_
  intro s4 v4 i4 g4 k4
  rw[setV_set]at g4
  simp only[c37o6,bld_pair,hms,Qa,Qb,Qc,Qd,Qe,Qf,Qg,Qh,Qi,Qj,Qk,Ql,Qm,Qn,true_and,and_true,Qo,Qp,Qq,Qr,Qs,Qt,Qu,Qv,Qw,Qx,Qy,Qz,Ra,Rb,Rc,Rd,Re,Rf,Rg,Rh,Ri,Rj,Rk,Rl,Rm,Ya,Yb,Yc,Rn,Ro,Rp,Yd,Ye,Rq,Rs,Rt,Ru,Rv,Rw,Rx]
  refine add_pair hE g4 (setV_same V p v4) i4 (bd _ _ (by decide)) 1 (-2) w1 w4 ?_
  intro s5 v5 i5 g5 k5
  rw[setV_set]at g5
  have hs2:=sols_solve hE g5 (setV_same V p v5) i5 (bd _ _ (by decide)) (most:=729) (by decide) (by simp;exact⟨⟨w1,w2⟩,⟨w3,w2⟩,w1,w4⟩)
  simp only[ptrA]at hs2
  simp only[c37o7,Qa,Qb,Qc,Qd,Qe,Qf,Qg,Qh,Qi,Qj,Qk,Ql,Qm,Qn,true_and,and_true,Qo,Qp,Qq,Qr,Qs,Qt,Qu,Qv,Qw,Qx,Qy,Qz,Ra,Rb,Rc,Rd,Re,Rf,Rg,Rh,Ri,Rj,Rk,Rl,Rm,Ya,Yb,Yc,Rn,Ro,Rp,Yd,Ye,Rq,Rs,Rt,Ru,Rv,Rw,Rx]
  refine hs2.mono ?_
  rintro _ s6 ⟨c,v6,rfl,i6,_,hc,g6,k6⟩
  have hc1:c=1∧v6.model.length=2+1∧Models (tells v6.model) [[1,2],[-1,2],[1,-2]]:=by
    rcases hc with⟨_,q⟩ | ⟨q1,q2,q3⟩ | ⟨_,q,_⟩
    · exact absurd (models4.2 ⟨rfl,rfl⟩) (q fun _=>true)
    · exact⟨q1,q2,q3⟩
    · exact absurd (q (by decide)) (by decide)
  obtain⟨rfl,hml,hmm⟩:=hc1
  obtain⟨t1,t2⟩:=models4.1 hmm
  rw[setV_set]at g6
  have hv1:=sols_value hE g6 (setV_same V p v6) (k:=1) (by decide)
  have hv2:=sols_value hE g6 (setV_same V p v6) (k:=2) (by decide)
  have ev1:iv ((1:Nat):Int)=iv 1:=rfl
  simp only[ptrA,ev1,t1]at hv1
  simp only[ptrA,e2,t2]at hv2
  simp only[decide_true,Qa,Qb,Qc,Qd,Qe,Qf,Qg,Qh,Qi,Qj,Qk,Ql,Qm,Qn,true_and,and_true,Qo,Qp,Qq,Qr,Qs,Qt,Qu,Qv,Qw,Qx,Qy,Qz,Ra,Rb,Rc,Rd,Re,Rf,Rg,Rh,Ri,Rj,Rk,Rl,Rm,Ya,Yb,Yc,Rn,Ro,Rp,Yd,Ye,Rq,Rs,Rt,Ru,Rv,Rw,Rx]
  refine hv1.mono ?_
  rintro _ _ ⟨rfl,rfl⟩
  simp only[Qa,Qb,Qc,Qd,Qe,Qf,Qg,Qh,Qi,Qj,Qk,Ql,Qm,Qn,true_and,and_true,Qo,Qp,Qq,Qr,Qs,Qt,Qu,Qv,Qw,Qx,Qy,Qz,Ra,Rb,Rc,Rd,Re,Rf,Rg,Rh,Ri,Rj,Rk,Rl,Rm,Ya,Yb,Yc,Rn,Ro,Rp,Yd,Ye,Rq,Rs,Rt,Ru,Rv,Rw,Rx]
  refine hv2.mono ?_
  rintro _ _ ⟨rfl,rfl⟩
  simp only[c37o8,bld_pair,hms,Qa,Qb,Qc,Qd,Qe,Qf,Qg,Qh,Qi,Qj,Qk,Ql,Qm,Qn,true_and,and_true,Qo,Qp,Qq,Qr,Qs,Qt,Qu,Qv,Qw,Qx,Qy,Qz,Ra,Rb,Rc,Rd,Re,Rf,Rg,Rh,Ri,Rj,Rk,Rl,Rm,Ya,Yb,Yc,Rn,Ro,Rp,Yd,Ye,Rq,Rs,Rt,Ru,Rv,Rw,Rx]
  refine add_pair hE g6 (setV_same V p v6) i6 (bd _ _ (by decide)) (-1) (-2) w3 w4 ?_
  intro s7 v7 i7 g7 k7
  rw[setV_set]at g7
  simp only[c37o9,Qa,Qb,Qc,Qd,Qe,Qf,Qg,Qh,Qi,Qj,Qk,Ql,Qm,Qn,true_and,and_true,Qo,Qp,Qq,Qr,Qs,Qt,Qu,Qv,Qw,Qx,Qy,Qz,Ra,Rb,Rc,Rd,Re,Rf,Rg,Rh,Ri,Rj,Rk,Rl,Rm,Ya,Yb,Yc,Rn,Ro,Rp,Yd,Ye,Rq,Rs,Rt,Ru,Rv,Rw,Rx]
  refine(sols_new hE g7 (n:=0) (by decide)).mono ?_
  rintro _ s8 ⟨vb,rfl,hVb,g8,k8,i8,_⟩
  generalize hpb:s7.next=q at *
  have hpq:p≠q:=fun e=>by rw[← e,setV_same]at hVb;cases hVb
  have bd0:∀A M,A≤10→Bd 0 A M:=fun A M hA=>⟨by decide,by omega,.inl (by decide)⟩
  have hadd:=sols_add hE g8 (setV_same _ q vb) i8 (bd0 _ _ (by decide)) (f:=[]) (by simp) (by simp) (b:=0) (u:=.slice none 0 (some 0)) (Nat.zero_le _) ⟨none,some 0,rfl,CellsAt.nil⟩ (fun j hj=>by cases hj)
  simp only[ptrA]at hadd
  simp only[c37o10,Qa,Qb,Qc,Qd,Qe,Qf,Qg,Qh,Qi,Qj,Qk,Ql,Qm,Qn,true_and,and_true,Qo,Qp,Qq,Qr,Qs,Qt,Qu,Qv,Qw,Qx,Qy,Qz,Ra,Rb,Rc,Rd,Re,Rf,Rg,Rh,Ri,Rj,Rk,Rl,Rm,Ya,Yb,Yc,Rn,Ro,Rp,Yd,Ye,Rq,Rs,Rt,Ru,Rv,Rw,Rx]
  refine hadd.mono ?_
  rintro _ s9 ⟨rfl,v9,i9,_,g9,k9⟩
  rw[setV_set]at g9
  have hpV:setV (setV V p v7) q v9 p=some v7:=by rw[setV_ne hpq];exact setV_same _ _ _
  have hs3:=sols_solve hE g9 hpV i7 (bd _ _ (by decide)) (most:=729) (by decide) (by simp;exact⟨⟨w1,w2⟩,⟨w3,w2⟩,⟨w1,w4⟩,w3,w4⟩)
  simp only[ptrA]at hs3
  simp only[c37o11,Qa,Qb,Qc,Qd,Qe,Qf,Qg,Qh,Qi,Qj,Qk,Ql,Qm,Qn,true_and,and_true,Qo,Qp,Qq,Qr,Qs,Qt,Qu,Qv,Qw,Qx,Qy,Qz,Ra,Rb,Rc,Rd,Re,Rf,Rg,Rh,Ri,Rj,Rk,Rl,Rm,Ya,Yb,Yc,Rn,Ro,Rp,Yd,Ye,Rq,Rs,Rt,Ru,Rv,Rw,Rx]
  refine hs3.mono ?_
  rintro _ s10 ⟨c,v10,rfl,_,_,hc,g10,k10⟩
  have hc0:c=0:=by
    rcases hc with⟨q,_⟩ | ⟨_,_,q⟩ | ⟨_,q,_⟩
    · exact q
    · exact absurd q models5
    · exact absurd (q (by decide)) (by decide)
  subst hc0
  have hqV:setV (setV (setV V p v7) q v9) p v10 q=some v9:=by rw[setV_ne (fun e=>hpq e.symm)];exact setV_same _ _ _
  have hs4:=sols_solve hE g10 hqV i9 (bd0 _ _ (by decide)) (most:=0) (by decide) (by simp)
  have e0:iv ((0:Nat):Int)=iv 0:=rfl
  simp only[ptrA,e0]at hs4
  simp only[decide_true,Qa,Qb,Qc,Qd,Qe,Qf,Qg,Qh,Qi,Qj,Qk,Ql,Qm,Qn,true_and,and_true,Qo,Qp,Qq,Qr,Qs,Qt,Qu,Qv,Qw,Qx,Qy,Qz,Ra,Rb,Rc,Rd,Re,Rf,Rg,Rh,Ri,Rj,Rk,Rl,Rm,Ya,Yb,Yc,Rn,Ro,Rp,Yd,Ye,Rq,Rs,Rt,Ru,Rv,Rw,Rx]
  refine hs4.mono ?_
  rintro _ s11 ⟨c,v11,rfl,_,_,hc,g11,k11⟩
  have hc0:c=0:=by
    rcases hc with⟨q,_⟩ | ⟨_,_,q⟩ | ⟨_,_,q⟩
    · exact q
    · obtain⟨y,hy,_⟩:=q [] (by simp)
      cases hy
    · exact absurd (by simp) q
  subst hc0
  simp only[decide_true,Qa,Qb,Qc,Qd,Qe,Qf,Qg,Qh,Qi,Qj,Qk,Ql,Qm,Qn,true_and,and_true,Qo,Qp,Qq,Qr,Qs,Qt,Qu,Qv,Qw,Qx,Qy,Qz,Ra,Rb,Rc,Rd,Re,Rf,Rg,Rh,Ri,Rj,Rk,Rl,Rm,Ya,Yb,Yc,Rn,Ro,Rp,Yd,Ye,Rq,Rs,Rt,Ru,Rv,Rw,Rx]
  exact((((((((((k1.trans k2).trans k3).trans k4).trans k5).trans k6).trans k7).trans k8).trans k9).trans k10).trans k11)
def u16(n:Int):Prop:=0≤n∧n≤65535
theorem Drawn.fits{n:Nat}{cs:List (List Int)}(h:Drawn n cs):(∀L∈cs,(∀x∈L,VL n x)∧L.length≤12)∧(∀L∈cs,(∀x∈L,VL n x)∧L.length≤1000000)∧∀f∈cs,∀y∈f,VL n y:=
  ⟨fun L hL=>⟨(h L hL).1,by have:=(h L hL).2;omega⟩,fun L hL=>⟨(h L hL).1,by have:=(h L hL).2;omega⟩,fun f hf=>(h f hf).1⟩
theorem vars_drawn{s:ASt}{d:Int}(hd:u8 d){k:Int}(hk:0<k∧k≤100):∃n:Nat,1≤n∧n≤k.toNat∧binA Try.prog .rem 5 (u8v d) (u8v k)=some (u8v (d % k))∧convA Try.prog s 5 3 (u8v (d % k))=some (iv (d % k))∧binA Try.prog .add 3 (iv 1) (iv (d % k))=some (iv (n:Int)):=by
  obtain⟨h1,h2⟩:=hd
  have r1:=Int.emod_nonneg d (show k≠0 by omega)
  have r2:=Int.emod_lt_of_pos d (show(0:Int)<k by omega)
  refine⟨(1+d % k).toNat,by omega,by omega,bin_rem (P:=Try.prog) (t:=5) (k:=.u8) h1 (by omega),conv_u8 ⟨by omega,by omega⟩,?_⟩
  rw[bin_add Try.prog 3 1 (d % k) ⟨by omega,by omega⟩]
  congr 2
  omega
theorem arg_int{t:TypeId}{k:IntKind}(ht:Try.prog.underlying t=some (.int k)){W:World}{base:Nat}{v:Value}(h:Value.okWide Try.prog W .any base t v){ρ:Rho}{a:AV}(hr:VRels ρ [a] v.cells.toList):VRel ρ a v:=by
  have hv:v.cells.toList=[v]:=by
    cases v with
    | agg cs=>simp[Value.okWide,ht,Cell.okWide,Cell.ok]at h
    | _=>rfl
  rw[hv]at hr
  cases hr with
  | cons h _=>exact h
section
variable{H:Type}{enc:TypeId×Value→H}{W:World}{base:Nat}
theorem enter_ub{v0 v1:Value}(h0:Value.okWide Try.prog W .any base 5 v0)(h1:Value.okWide Try.prog W .any base 42 v1)
    {d0 d1:DataW H} {p0 p1:List MemPlace} (t0:DataW.Trod enc Try.prog W 0 (fun _=>true) true 5 v0 d0 p0) (t1:DataW.Trod enc Try.prog W 0 (fun _=>true) true 42 v1 d1 p1):
    ∃ (ρ:Rho) (s:ASt) (d:Int) (u:AV) (bs:List Int),Door Try.prog W ρ s∧VRel ρ (u8v d) v0∧VRel ρ u v1∧u8 d∧SliceAt s.next s u (u8vs bs)∧U8s bs∧bs.length<9223372036854775808:=by
  obtain⟨n0,t0⟩:=t0
  obtain⟨n1,t1⟩:=t1
  obtain⟨ρ1,s1,us1,d,g1,g2,g3,g4,rfl,g5⟩:=enter_num (q:=u8) Try.underlying5 (fun n h=>wf_u8 h) n0 _ _ t0 _ _ (door0 Try.prog W)
  obtain⟨ρ2,s2,us2,bs,k1,k2,k3,k4,k5⟩:=enter_nums (q:=u8) Try.underlying42 Try.underlying5 co5 (fun n h=>wf_u8 h) t1 (fun a ha=>size_pos Try.underlying42 h1 a ha) g1
  obtain⟨u,rfl,q1,q2,q3⟩:=sliceIn_at k5
  exact⟨ρ2,s2,d,u,bs,k1,arg_int Try.underlying5 h0 (g4.mono k2),arg_rel Try.underlying42 h1 k4,g5,q1,q2,q3⟩
end
theorem Keep.toOld{b:Nat}{s s':ASt}(h:Keep (fun j=>j<s.next) s s')(hb:b≤s.next):Old b s s':=⟨h.1,fun j hj=>h.2 j (Nat.lt_of_lt_of_le hj hb)⟩
section
variable{H:Type}{enc:TypeId×Value→H}{W:World}{base:Nat}
theorem enter_ubb{v0 v1 v2:Value}(h0:Value.okWide Try.prog W .any base 5 v0)(h1:Value.okWide Try.prog W .any base 42 v1)(h2:Value.okWide Try.prog W .any base 42 v2)
    {d0 d1 d2:DataW H} {p0 p1 p2:List MemPlace} (t0:DataW.Trod enc Try.prog W 0 (fun _=>true) true 5 v0 d0 p0) (t1:DataW.Trod enc Try.prog W 0 (fun _=>true) true 42 v1 d1 p1) (t2:DataW.Trod enc Try.prog W 0 (fun _=>true) true 42 v2 d2 p2):
    ∃ (ρ:Rho) (s:ASt) (d:Int) (u w:AV) (bs xs:List Int),Door Try.prog W ρ s∧VRel ρ (u8v d) v0∧VRel ρ u v1∧VRel ρ w v2∧u8 d∧(SliceAt s.next s u (u8vs bs)∧U8s bs∧bs.length<9223372036854775808)∧SliceAt s.next s w (u8vs xs)∧U8s xs∧xs.length<9223372036854775808:=by
  obtain⟨ρ,s,d,u,bs,hd,r0,r1,q1,q2,q3,q4⟩:=enter_ub h0 h1 t0 t1
  obtain⟨n2,t2⟩:=t2
  obtain⟨ρ2,s2,us2,xs,k1,k2,k3,k4,k5⟩:=enter_nums (q:=u8) Try.underlying42 Try.underlying5 co5 (fun n h=>wf_u8 h) t2 (fun a ha=>size_pos Try.underlying42 h2 a ha) hd
  obtain⟨w,rfl,m1,m2,m3⟩:=sliceIn_at k5
  exact⟨ρ2,s2,d,u,w,bs,xs,k1,r0.mono k2,r1.mono k2,arg_rel Try.underlying42 h2 k4,q1,⟨(q2.old k3 (Nat.le_refl _)).mono k3.1,q3,q4⟩,m1,m2,m3⟩
end
theorem CI.hinted{n h:Nat}{F:List (List Int)}{v:Sv}(k:CI n F h v){ph:List Int}(hl:ph.length=v.phase.length)(hp:PhaseOk n { v with phase:=ph }):CI n F h { v with phase:=ph }:=by
  have hi:Inv1 n { v with phase:=ph }:=by
    obtain⟨⟨hz,hv,hli,hlm⟩,g2,g3,g4,g5⟩:=k.ct.inv
    exact⟨⟨⟨hz.small,hz.w,hz.value,hz.level,hz.why,hz.heat,hl.trans hz.phase,hz.trail,hz.limits⟩,hv,hli,hlm⟩,g2,g3,g4,g5⟩
  exact⟨k.ct.of hi rfl rfl rfl rfl rfl,⟨k.cw.wat,k.cw.wcl,k.cw.wnd,k.cw.wok⟩,k.hb,k.lh,k.unit,k.i7,k.imp,k.cover,hp⟩
theorem preferV_phase{n:Nat}{v:Sv}(h:PhaseOk n v){k:Nat}{b:Bool}(hk:k<v.phase.length):PhaseOk n (preferV v k b):=by
  intro j h1 h2
  show((v.phase.set k (-1)).set k (if b then 1 else -1)).getD j 0=1∨((v.phase.set k (-1)).set k (if b then 1 else -1)).getD j 0=-1
  rw[List.set_set]
  by_cases e:j=k
  · subst e
    rw[getD_set_eq hk]
    cases b<;>simp
  · rw[getD_set_ne e]
    exact h j h1 h2
theorem SI.prefer{n A:Nat}{F:List (List Int)}{M:Nat}{v:Sv}(h:SI n A F M v){k:Nat}{b:Bool}(hk:k<v.phase.length):SI n A F M (preferV v k b):=by
  rcases h with⟨C,h1,h2,h3⟩ | h
  · refine .inl ⟨C,⟨h1.brk,h1.ci.hinted (by simp) (preferV_phase h1.ci.phase hk),h1.h0,h1.h1,h1.cod.of rfl rfl rfl rfl rfl rfl⟩,h2,h3⟩
  · refine .inr ⟨h.brk,?_,h.lim,h.trc,h.many,h.no⟩
    have hi:Inv1 n (preferV v k b):=by
      obtain⟨⟨hz,hv,hli,hlm⟩,g2,g3,g4,g5⟩:=h.inv.inv
      exact⟨⟨⟨hz.small,hz.w,hz.value,hz.level,hz.why,hz.heat,by show((v.phase.set k (-1)).set k _).length=_;simp;exact hz.phase,hz.trail,hz.limits⟩,hv,hli,hlm⟩,g2,g3,g4,g5⟩
    exact⟨hi,h.inv.tot,h.inv.h0,h.inv.h1⟩
theorem prefer_out{E:Env}(hE:Good E){ow:Ow}{s:ASt}{p:Nat}{x:Sf}{v:Sv}(h:SAt ow s p x v){j:Int}(hj:j<1∨(v.phase.length:Int)≤j)(b:Bool):
    WF E 45 [ptrA p,iv j,.bool b] (fun _ s'=>s'=s) s:=by
  have ln:∀s,lenA Try.prog s 23 x.ph=some (iv (v.phase.length:Int)):=fun s=>by
    have:=h.phase.len Try.underlying23 s
    rw[List.length_map]at this
    exact this
  have q:=eq_ptr44 p
  simp only[ptrA]at q
  refine hE.go comp45 (by decide) rfl ?_
  by_cases h1:j<1
  · have d1:decide (j<1)=true:=decide_eq_true h1
    simp only[c45,c45o0,ptrA,q,d1,Qa,Qb,Qc,Qd,Qe,Qf,Qg,Qh,Qi,Qj,Qk,Ql,Qm,Qn,true_and,and_true,Qo,Qp,Qq,Qr,Qs,Qt,Qu,Qv,Qw,Qx,Qy,Qz,Ra,Rb,Rc,Rd,Re,Rf,Rg,Rh,Ri,Rj,Rk,Rl,Rm,Ya,Yb,Yc,Rn,Ro,Rp,Yd,Ye,Rq,Rs,Rt,Ru,Rv,Rw,Rx]
  · have d1 : decide (j < 1) = false := decide_eq_false h1
    have d2:decide ((v.phase.length:Int)≤j)=true:=decide_eq_true (by omega)
    simp only[c45,c45o0,ptrA,q,d1,d2,nilCheck_ptr,fa91_6,h.ld_ph,ln,Qa,Qb,Qc,Qd,Qe,Qf,Qg,Qh,Qi,Qj,Qk,Ql,Qm,Qn,true_and,and_true,Qo,Qp,Qq,Qr,Qs,Qt,Qu,Qv,Qw,Qx,Qy,Qz,Ra,Rb,Rc,Rd,Re,Rf,Rg,Rh,Ri,Rj,Rk,Rl,Rm,Ya,Yb,Yc,Rn,Ro,Rp,Yd,Ye,Rq,Rs,Rt,Ru,Rv,Rw,Rx]
theorem sols_prefer{E:Env}(hE:Good E){B:Nat→Prop}{s:ASt}{V:Nat→Option Sv}(h:Sols B s V){p:Nat}{v:Sv}(hp:V p=some v){n A:Nat}{F:List (List Int)}{M:Nat}(hI:SI n A F M v)(hbd:Bd n A M)(j:Int)(b:Bool):
    WF E 45 [ptrA p,iv j,.bool b] (fun _ s'=>∃v',SI n A F M v'∧Sols B s' (setV V p v')∧Keep B s s') s:=by
  have hS:=h
  obtain⟨ow,h1,h2⟩:=h
  obtain⟨x,hx⟩:=h1 p v hp
  have hlen:=(hI.inv hbd).1.fit.siz.phase
  have hn:=hbd.1
  have hsame:setV V p v=V:=by
    funext q
    unfold setV
    split
    · rename_i e;rw[e,hp]
    · rfl
  by_cases hj:j<1∨(v.phase.length:Int)≤j
  · refine (prefer_out hE hx hj b).mono ?_
    rintro _ s' rfl
    exact⟨v,hI,by rw[hsame];exact hS,Keep.refl _ _⟩
  · obtain⟨k,rfl⟩:∃k:Nat,j=(k:Int):=⟨j.toNat,by omega⟩
    refine(prefer_ok hE hx k (by omega) (by omega) (by omega) b).mono ?_
    rintro _ s' ⟨g1,g2⟩
    obtain⟨k1,k2⟩:=Sols.used h1 h2 hp g1 (g2.mono fun t ht=>ht.1)
    exact⟨_,hI.prefer (by omega),k1,k2⟩
theorem growN_val:∀ (k:Nat)(v:Sv),(growN k v).value.length=v.value.length+k
  | 0,v=>rfl
  | k+1,v=>by
    show(growN k (grow1 v)).value.length=_
    rw[growN_val k (grow1 v)]
    show(v.value++[0]).length+k=_
    rw[List.length_append,List.length_singleton]
    omega
theorem growN_szs:∀ (k:Nat){B:Nat}{v:Sv},Szs B v→Szs (B+k) (growN k v)
  | 0,B,v,h=>h
  | k+1,B,v,h=>by
    have:=growN_szs k h.one
    rw[show B+(k+1)=B+1+k by omega]
    exact this
theorem sols_grow{E:Env}(hE:Good E){B:Nat→Prop}{s:ASt}{V:Nat→Option Sv}(h:Sols B s V){p:Nat}{v:Sv}(hp:V p=some v){n:Nat}(hn:n<100000000)(hz:Szs 900 v):
    WF E 46 [ptrA p,iv (n:Int)] (fun _ s'=>Sols B s' (setV V p (growV v n))∧Keep B s s') s:=by
  obtain⟨ow,h1,h2⟩:=h
  obtain⟨x,hx⟩:=h1 p v hp
  refine(grow46_ok hE hx hn hz).mono ?_
  rintro _ s' ⟨ow',x',g1,g2⟩
  exact Sols.used h1 h2 hp g1 g2
theorem RowAt.put{s:ASt}{i k:Nat}{cs:List AV}{u:AV}(h:RowAt s i cs)(hk:k<cs.length){t:TypeId}(ht:sizeT Try.prog t=some 1)(h1:u.isCell=true)(h2:u.cells=[u]):
    ∃s',storeV Try.prog s t (.ptr (some (i,0+k * 1))) u=some s'∧RowAt s' i (cs.set k u)∧s'.next=s.next∧∀x,x≠i→s'.heap.get x=s.heap.get x:=by
  obtain⟨s',g1,g2,g3,g4⟩:=h.fill (o:=k) (vs:=[u]) (by simp) (by simp;omega) (by simp[allCells,h1])
  refine⟨s',?_,?_,g3,g4⟩
  · simp[storeV,ht,h2,guardB,g1]
  · rw[show cs.set k u=cs.take k++[u]++cs.drop (k+[u].length) by rw[List.append_assoc];simp[List.set_eq_take_append_cons_drop,hk]]
    exact g2
theorem RowAt.get{s:ASt}{i k:Nat}{cs:List AV}{u:AV}(h:RowAt s i cs)(hk:cs[k]? = some u){t:TypeId}(ht:aggT Try.prog t=some false):loadV Try.prog s t (.ptr (some (i,0+k * 1)))=some u:=by
  rw[Nat.zero_add,Nat.mul_one];exact load_one ht (h.load1 hk)
theorem rem_nat{s:ASt}{a b:Nat}(hb:0<b):binA Try.prog .rem 3 (iv (a:Int)) (iv (b:Int))=some (iv ((a % b:Nat):Int)):=by
  rw[Int.natCast_emod]
  exact bin_rem (P:=Try.prog) (t:=3) (k:=.i64) (by omega) (by omega)
abbrev Pr:=AV×List Int
theorem pr_get{ps:List Pr}{k:Nat}{x:Pr}(h:ps[k]? = some x):(ps.map Prod.fst)[k]? = some x.1:=by rw[List.getElem?_map,h];rfl
theorem swap_loop{E:Env}(hE:Good E){s0:ASt}{b i:Nat}(hbi:b≤i){os:List Int}(hord:U8s os){ao:Option (Nat×Nat)}{co:Option Nat}(hc:CellsAt b s0 ao (u8vs os)){ps0:List Pr}(hlen:ps0.length<1000)(hcell:∀x∈ps0,x.1.isCell=true∧x.1.cells=[x.1])
    (v0 v1 v3 v4 v5 v6 v7 x11 x12 x13 x14 x15 x16 x17 x19 x20 x21 x22:AV) {Q:ARes→Prop}
    (hq:∀ (s':ASt) (ps:List Pr) (y9 y10 y18:AV),RowAt s' i (ps.map Prod.fst)→ps.Perm ps0→s'.next=s0.next→(∀x,x≠i→s'.heap.get x=s0.heap.get x) →
      Q ⟨.exit 0,[v0,v1,.slice ao os.length co,v3,v4,v5,v6,v7,.slice (some (i,0)) ps0.length none,y9,y10,x11,x12,x13,x14,x15,x16,x17,y18,x19,x20,x21,x22],[],s'⟩):
    ∀ (m k:Nat) (s:ASt) (ps:List Pr) (x10 x18:AV),k+m=ps0.length→RowAt s i (ps.map Prod.fst)→ps.Perm ps0→s.next=s0.next→(∀x,x≠i→s.heap.get x=s0.heap.get x) →
      WC E none (.loop c12l14) Q [v0,v1,.slice ao os.length co,v3,v4,v5,v6,v7,.slice (some (i,0)) ps0.length none,iv (k:Int),x10,x11,x12,x13,x14,x15,x16,x17,x18,x19,x20,x21,x22] [] s:=by
  intro m
  induction m with
  | zero =>
    intro k s ps x10 x18 hk hR hP hn hf
    have hd:decide ((k:Int)<(ps0.length:Int))=false:=decide_eq_false (by omega)
    refine WC.loop' ?_
    simp only[c12l14,c12o10,len_slice Try.underlying22,hd,Qa,Qb,Qc,Qd,Qe,Qf,Qg,Qh,Qi,Qj,Qk,Ql,Qm,Qn,true_and,and_true,Qo,Qp,Qq,Qr,Qs,Qt,Qu,Qv,Qw,Qx,Qy,Qz,Ra,Rb,Rc,Rd,Re,Rf,Rg,Rh,Ri,Rj,Rk,Rl,Rm,Ya,Yb,Yc,Rn,Ro,Rp,Yd,Ye,Rq,Rs,Rt,Ru,Rv,Rw,Rx]
    exact hq s ps _ _ _ hR hP hn hf
  | succ m ih =>
    intro k s ps x10 x18 hk hR hP hn hf
    have hd:decide ((k:Int)<(ps0.length:Int))=true:=decide_eq_true (by omega)
    rcases Nat.eq_zero_or_pos os.length with ho | ho
    · have hd2:decide ((0:Int)<(os.length:Int))=false:=decide_eq_false (by omega)
      refine WC.loop' ?_
      simp only[c12l14,c12o10,len_slice Try.underlying22,len_slice Try.underlying42,hd,hd2,Qa,Qb,Qc,Qd,Qe,Qf,Qg,Qh,Qi,Qj,Qk,Ql,Qm,Qn,true_and,and_true,Qo,Qp,Qq,Qr,Qs,Qt,Qu,Qv,Qw,Qx,Qy,Qz,Ra,Rb,Rc,Rd,Re,Rf,Rg,Rh,Ri,Rj,Rk,Rl,Rm,Ya,Yb,Yc,Rn,Ro,Rp,Yd,Ye,Rq,Rs,Rt,Ru,Rv,Rw,Rx]
      exact hq s ps _ _ _ hR hP hn hf
    · have hd2 : decide ((0 : Int) < (os.length : Int)) = true := decide_eq_true (by omega)
      have r1:=rem_nat (s:=s) (a:=k) ho
      have hlt1:k % os.length<os.length:=Nat.mod_lt _ ho
      obtain⟨hx1,hx2⟩:=hord os[k % os.length] (List.getElem_mem _)
      obtain⟨p,o,rfl,hp,hload⟩:=hc (k % os.length) _ (get_u8vs (List.getElem?_eq_getElem hlt1))
      have e1:=idx_slice (cap:=co) (i:=p) (o:=o) Try.underlying42 sz5 hlt1
      have ld:loadV Try.prog s 5 (.ptr (some (p,o+k % os.length * 1)))=some (u8v os[k % os.length]):=load_one ag5 (by rw[Nat.mul_one,load1_eq (hf p (by omega))];exact hload)
      generalize os[k % os.length]=w at hx1 hx2 ld
      obtain⟨w,rfl⟩:∃n:Nat,w=(n:Int):=⟨w.toNat,by omega⟩
      have q6:convA Try.prog s 5 3 (u8v (w:Int))=some (iv (w:Int)):=conv_u8 ⟨by omega,by omega⟩
      have r2:=rem_nat (s:=s) (a:=w) (b:=ps0.length) (by omega)
      have hj:w % ps0.length<ps0.length:=Nat.mod_lt _ (by omega)
      generalize w % ps0.length=j at r2 hj
      have hpl:=hP.length_eq
      have hkl:k<ps.length:=by omega
      have hjl:j<ps.length:=by omega
      have gk:ps[k]? = some ps[k]:=List.getElem?_eq_getElem hkl
      have gj:ps[j]? = some ps[j]:=List.getElem?_eq_getElem hjl
      obtain⟨ck1,ck2⟩:=hcell ps[k] (hP.mem_iff.1 (List.getElem_mem _))
      obtain⟨cj1,cj2⟩:=hcell ps[j] (hP.mem_iff.1 (List.getElem_mem _))
      have i1:=idx_slice (cap:=none) (i:=i) (o:=0) Try.underlying22 sz23 (show k<ps0.length by omega)
      have i2:=idx_slice (cap:=none) (i:=i) (o:=0) Try.underlying22 sz23 hj
      have l1:=hR.get (pr_get gj) ag23
      have l2:=hR.get (pr_get gk) ag23
      obtain⟨s1,a1,a2,a3,a4⟩:=hR.put (k:=k) (u:=ps[j].1) (by rw[List.length_map];exact hkl) sz23 cj1 cj2
      obtain⟨s2,b1,b2,b3,b4⟩:=a2.put (k:=j) (u:=ps[k].1) (by rw[List.length_set,List.length_map];exact hjl) sz23 ck1 ck2
      have e3:=bin_add Try.prog 3 (k:Int) 1 ⟨by omega,by omega⟩
      have hcast:((k:Int)+1)=((k+1:Nat):Int):=by omega
      refine WC.loop' ?_
      generalize hW:WC E none (CCode.loop c12l14) Q=W at ih ⊢
      simp only[c12l14,c12o10,c12o11,c12o12,len_slice Try.underlying22,len_slice Try.underlying42,hd,hd2,r1,e1,ld,q6,r2,i1,i2,l1,l2,on2,a1,b1,withV,c12o13,e3,hcast,Qa,Qb,Qc,Qd,Qe,Qf,Qg,Qh,Qi,Qj,Qk,Ql,Qm,Qn,true_and,and_true,Qo,Qp,Qq,Qr,Qs,Qt,Qu,Qv,Qw,Qx,Qy,Qz,Ra,Rb,Rc,Rd,Re,Rf,Rg,Rh,Ri,Rj,Rk,Rl,Rm,Ya,Yb,Yc,Rn,Ro,Rp,Yd,Ye,Rq,Rs,Rt,Ru,Rv,Rw,Rx]
      refine ih (k+1) s2 ((ps.set k ps[j]).set j ps[k]) _ _ (by omega) ?_ ((List.set_set_perm hkl hjl).trans hP) (by rw[b3,a3,hn]) fun x hx=>by rw[b4 x hx,a4 x hx,hf x hx]
      rw[List.map_set,List.map_set]
      exact b2
theorem src_any{b:Nat}{s:ASt}{v:AV}{cs:List AV}(h:SliceAt b s v cs)(e:TypeId):∃a cap,v=.slice a cs.length cap∧srcCells Try.prog s e 1 v=some (cs.length,cs):=by
  obtain⟨a,cap,rfl,hc⟩:=h
  refine⟨a,cap,rfl,?_⟩
  cases cs with
  | nil =>
    cases a with
    | none=>rfl
    | some io=>obtain⟨i,o⟩:=io;rfl
  | cons x cs=>exact SliceAt.src hc rfl (by simp)
theorem row_elem{b:Nat}{s:ASt}{w:AV}{L:List Int}(h:SliceAt b s w (ivs L)){j:Nat}{x:Int}(hj:L[j]? = some x):∃a,indexAddrA Try.prog 23 w (iv (j:Int))=some a∧loadV Try.prog s 3 a=some (iv x):=by
  obtain⟨a,cap,rfl,hc⟩:=h
  obtain⟨i,o,rfl,hi,hl⟩:=hc j _ (get_ivs hj)
  have hlt:=lt_of_get hj
  exact⟨_,idx_slice Try.underlying23 sz3 (by rw[List.length_map];exact hlt),load_one ag3 (by rw[Nat.mul_one];exact hl)⟩
theorem RowsIn.old{s s':ASt}{v:AV}{cs:List (List Int)}{B:Nat→Prop}(h:RowsIn B s v cs)(hB:∀j,B j→j<s.next)(ho:Old s.next s s'):RowsIn B s' v cs:=h.keep ⟨ho.1,fun j hj=>ho.2 j (hB j hj)⟩
theorem drop_rev{L:List Int}{r:Nat}{x:Int}(h:L[r]? = some x):(L.drop r).reverse=(L.drop (r+1)).reverse++[x]:=by
  have hlt:=lt_of_get h
  rw[List.getElem?_eq_getElem hlt]at h
  injection h with h
  rw[List.drop_eq_getElem_cons hlt,List.reverse_cons,h]
theorem rev_loop{E:Env}(hE:Good E){s1:ASt}{B:Nat→Prop}{ms:List (List Int)}{u:AV}(hr:RowsIn B s1 u ms)(hB:∀j,B j→j<s1.next){k:Nat}{L:List Int}(hk:ms[k]? = some L)(hL:L.length≤12)
    (v0 v1 v2 v3 v4 v5 v6 v7 v9 v10 v14 v15 v16 v17 v18 v19 v21 v22:AV) {Q:ARes→Prop}
    (hq:∀s' v' O' y13 y20,Dest s' v' L.length 1 (ivs L.reverse) O'→(∀j∈O',s1.next≤j)→(∀j,slot v'=some j→s1.next≤j)→Old s1.next s1 s'→Q ⟨.exit 4,[v0,v1,v2,v3,v4,v5,v6,v7,u,v9,v10,iv (k:Int),v',y13,v14,v15,v16,v17,v18,v19,y20,v21,v22],[],s'⟩):
    ∀ (r:Nat) (s:ASt) (v:AV) (O:List Nat) (x20:AV),r≤L.length→Dest s v (L.length - r) 1 (ivs (L.drop r).reverse) O→(∀j∈O,s1.next≤j)→(∀j,slot v=some j→s1.next≤j)→Old s1.next s1 s →
      WC E none (.loop c12l22) Q [v0,v1,v2,v3,v4,v5,v6,v7,u,v9,v10,iv (k:Int),v,iv ((r:Int) - 1),v14,v15,v16,v17,v18,v19,x20,v21,v22] [] s:=by
  intro r
  induction r with
  | zero =>
    intro s v O x20 hr' hd hO hS hold
    have hdd:decide ((0:Int)≤((0:Nat):Int) - 1)=false:=by decide
    refine WC.loop' ?_
    simp only[c12l22,c12o19,hdd,Qa,Qb,Qc,Qd,Qe,Qf,Qg,Qh,Qi,Qj,Qk,Ql,Qm,Qn,true_and,and_true,Qo,Qp,Qq,Qr,Qs,Qt,Qu,Qv,Qw,Qx,Qy,Qz,Ra,Rb,Rc,Rd,Re,Rf,Rg,Rh,Ri,Rj,Rk,Rl,Rm,Ya,Yb,Yc,Rn,Ro,Rp,Yd,Ye,Rq,Rs,Rt,Ru,Rv,Rw,Rx]
    exact hq s v O _ _ hd hO hS hold
  | succ r ih =>
    intro s v O x20 hr' hd hO hS hold
    have hlt:r<L.length:=hr'
    have hx:L[r]? = some L[r]:=List.getElem?_eq_getElem hlt
    generalize L[r]=x at hx
    have hcast:(((r+1:Nat):Int) - 1)=(r:Int):=by omega
    have hdd:decide ((0:Int)≤(r:Int))=true:=decide_eq_true (by omega)
    obtain⟨a,w,e1,e2,hu,_⟩:=(hr.old hB hold).row hk
    obtain⟨a2,e3,e4⟩:=row_elem hu hx
    have e5:=bin_sub Try.prog 3 (r:Int) 1 ⟨by omega,by omega⟩
    have b1:∀y:Int,sliceRowA Try.prog 23 1 (zipIdx [0] [iv y])=some (mkRow 3 1 [iv y]):=fun y=>bld_one Try.underlying23 sz3 zr3 rfl rfl
    have hmv:∀ (m:Nat) (i:Nat),Made.val i (.slice m)=.slice (some (i,0)) m (some m):=fun _ _=>rfl
    have hlen:(L.drop (r+1)).reverse.length=L.length - (r+1):=by simp
    obtain⟨v',s',O',p1,p2,p3,p4,p5,p6⟩:=push_int' (L:=(L.drop (r+1)).reverse) (by rw[hlen];exact hd) (by omega) x
    rw[← drop_rev hx]at p2
    have hlen2:(L.drop r).reverse.length=L.length - r:=by simp
    rw[hlen2]at p2
    refine WC.loop' ?_
    generalize hW:WC E none (CCode.loop c12l22) Q=W at ih ⊢
    simp only[c12l22,c12o19,hcast,hdd,c12o20,e1,e2,e3,e4,b1,hmv,p1,c12o21,e5,Qa,Qb,Qc,Qd,Qe,Qf,Qg,Qh,Qi,Qj,Qk,Ql,Qm,Qn,true_and,and_true,Qo,Qp,Qq,Qr,Qs,Qt,Qu,Qv,Qw,Qx,Qy,Qz,Ra,Rb,Rc,Rd,Re,Rf,Rg,Rh,Ri,Rj,Rk,Rl,Rm,Ya,Yb,Yc,Rn,Ro,Rp,Yd,Ye,Rq,Rs,Rt,Ru,Rv,Rw,Rx]
    exact ih s' v' O' _ (by omega) p2 (fun j hj=>(p5 j hj).elim (hO j) fun h=>Nat.le_trans hold.1 h) (fun j hj=>(p6 j hj).elim (hS j) fun h=>Nat.le_trans hold.1 h) (hold.trans ⟨p3,fun j hj=>p4 j (Nat.lt_of_lt_of_le hj hold.1) fun hm=>by have:=hO j hm;omega⟩)
theorem models_snoc{σ:Nat→Bool}{F:List (List Int)}{f:List Int}:Models σ (F++[f])↔Models σ F∧∃y∈f,Sat σ y:=by
  unfold Models
  constructor
  · intro h
    exact⟨fun g hg=>h g (List.mem_append_left _ hg),h f (by simp)⟩
  · rintro ⟨h1, h2⟩ g hg
    rcases List.mem_append.1 hg with q | q
    · exact h1 g q
    · rw[List.mem_singleton.1 q];exact h2
theorem sat_taut{σ:Nat→Bool}:∃y∈([1,-1]:List Int),Sat σ y:=by
  cases h:σ 1 with
  | true=>exact⟨1,by simp,.inl ⟨by decide,h⟩⟩
  | false=>exact⟨-1,by simp,sat1.2.2.1.2 h⟩
theorem take_snoc{α:Type}{l:List α}{k:Nat}{x:α}(h:l[k]? = some x):l.take (k+1)=l.take k++[x]:=by
  have hlt:=lt_of_get h
  rw[List.take_succ_eq_append_getElem hlt]
  rw[List.getElem?_eq_getElem hlt]at h
  injection h with h
  rw[h]
theorem twin_loop {E : Env} (hE : Good E) {s0 : ASt} {B : Nat → Prop} {V : Nat → Option Sv} {n q : Nat} (hn1 : 1 ≤ n) (hn : n ≤ 6) {ms : List (List Int)} (hms : ∀ L ∈ ms, (∀ x ∈ L, VL n x) ∧ L.length ≤ 4) (hlen : ms.length ≤ 40) {u : AV} (hr : RowsIn B s0 u ms)
    (v0 v1 v2 v3 v4 v5 v6 v9 v10 v14 v15 v16 v17 v18 v22:AV) {Q:ARes→Prop}
    (hq:∀s' v F A y11 y12 y13 y19 y20 y21,Sols B s' (setV V q v)→Keep B s0 s'→SI n A F 0 v→A≤100→(∀f∈F,∀y∈f,VL n y)→(∀σ,Models σ F↔Models σ ms)→Q ⟨.exit 2,[v0,v1,v2,v3,v4,v5,v6,ptrA q,u,v9,v10,y11,y12,y13,v14,v15,v16,v17,v18,y19,y20,y21,v22],[],s'⟩):
    ∀ (l:List (List Int)) (k:Nat) (s:ASt) (v:Sv) (F:List (List Int)) (A:Nat) (x12 x13 x19 x20 x21:AV),ms.drop k=l→k≤ms.length→Sols B s (setV V q v)→Keep B s0 s→SI n A F 0 v→A≤2 * k→(∀f∈F,∀y∈f,VL n y)→(∀σ,Models σ F↔Models σ (ms.take k)) →
      WC E none (.loop c12l28) Q [v0,v1,v2,v3,v4,v5,v6,ptrA q,u,v9,v10,iv (k:Int),x12,x13,v14,v15,v16,v17,v18,x19,x20,x21,v22] [] s:=by
  have h3:3 ^ n≤1900:=Nat.le_trans (Nat.pow_le_pow_right (by decide) hn) (by decide)
  intro l
  induction l with
  | nil =>
    intro k s v F A x12 x13 x19 x20 x21 hd hk hS hK hI hA hF hM
    have:=drop_end hd hk
    subst this
    rw[List.take_length]at hM
    have hr':=hr.keep hK
    refine WC.loop' ?_
    simp only[c12l28,c12o16,hr'.len,Int.lt_irrefl,decide_false,Qa,Qb,Qc,Qd,Qe,Qf,Qg,Qh,Qi,Qj,Qk,Ql,Qm,Qn,true_and,and_true,Qo,Qp,Qq,Qr,Qs,Qt,Qu,Qv,Qw,Qx,Qy,Qz,Ra,Rb,Rc,Rd,Re,Rf,Rg,Rh,Ri,Rj,Rk,Rl,Rm,Ya,Yb,Yc,Rn,Ro,Rp,Yd,Ye,Rq,Rs,Rt,Ru,Rv,Rw,Rx]
    exact hq s v F A _ _ _ _ _ _ hS hK hI (by omega) hF hM
  | cons L l ih =>
    intro k s v F A x12 x13 x19 x20 x21 hd hk hS hK hI hA hF hM
    obtain⟨hlt,hx,hd'⟩:=drop_facts hd
    have hr':=hr.keep hK
    have hB:∀j,B j→j<s.next:=fun j hj=>by
      obtain⟨ow,_,h2⟩:=hS
      exact(h2 j hj).1
    obtain⟨a,w,e1,e2,hu,hwB⟩:=hr'.row hx
    have hkk:decide ((k:Int)<(ms.length:Int))=true:=decide_eq_true (by omega)
    obtain⟨h6,h7⟩:=hms L (List.mem_of_getElem? hx)
    have ln:∀s,lenA Try.prog s 23 w=some (iv (L.length:Int)):=fun s=>by
      have:=hu.len Try.underlying23 s
      rw[List.length_map]at this
      exact this
    have e5:=bin_sub Try.prog 3 (L.length:Int) 1 ⟨by omega,by omega⟩
    have e6:=bin_add Try.prog 3 (k:Int) 1 ⟨by omega,by omega⟩
    have hcast:((k:Int)+1)=((k+1:Nat):Int):=by omega
    refine WC.loop' ?_
    generalize hW:WC E none (CCode.loop c12l28) Q=W at ih ⊢
    simp only[c12l28,c12o16,hr'.len,hkk,c12o17,c12o18,e1,e2,ln,e5,Qa,Qb,Qc,Qd,Qe,Qf,Qg,Qh,Qi,Qj,Qk,Ql,Qm,Qn,true_and,and_true,Qo,Qp,Qq,Qr,Qs,Qt,Qu,Qv,Qw,Qx,Qy,Qz,Ra,Rb,Rc,Rd,Re,Rf,Rg,Rh,Ri,Rj,Rk,Rl,Rm,Ya,Yb,Yc,Rn,Ro,Rp,Yd,Ye,Rq,Rs,Rt,Ru,Rv,Rw,Rx]
    refine rev_loop hE hr' hB hx (by omega) _ _ _ _ _ _ _ _ _ _ _ _ _ _ _ _ _ _ ?_ L.length s (.slice none 0 (some 0)) [] _ (Nat.le_refl _) (by simpa using Dest.nil s 1) (fun j hj=>by cases hj) (fun j hj=>by cases hj) (Old.refl _ _)
    intro s1 c O y13 y20 hdst hO hsl hold
    have hmv:∀ (m:Nat) (i:Nat),Made.val i (.slice m)=.slice (some (i,0)) m (some m):=fun _ _=>rfl
    have go:∀ (s2:ASt) (c:AV) (f:List Int) (O2:List Nat) (y13 y20 y21:AV),Dest s2 c f.length 1 (ivs f) O2→(∀j,slot c=some j→s.next≤j)→Old s.next s s2→f.length≤12→(∀y,y∈f↔y∈L) →
        Qb E c12o25 (fun v s'=>Qb E c12o26 (fun v s'=>Qb E c12o27 (fun v s'=>W v [] s') [] v s') [] v s') [] [v0,v1,v2,v3,v4,v5,v6,ptrA q,u,v9,v10,iv (k:Int),c,y13,v14,v15,v16,v17,v18,.bool true,y20,y21,v22] s2:=by
      intro s2 c f O2 y13 y20 y21 hc hcs ho2 hfl hfm
      have hcl:=hc.slice
      have hS2:=hS.old ho2
      have hadd:=sols_add hE hS2 (setV_same V q v) hI (hbd:=⟨by omega,by omega,.inl h3⟩) (f:=f) (fun y hy=>h6 y ((hfm y).1 hy)) hfl (Nat.le_refl _) (by simpa using hcl) (fun j hj=>.inr ⟨hcs j hj,hc.slot_lt j hj⟩)
      simp only[ptrA]at hadd
      simp only[c12o25,ptrA,Qa,Qb,Qc,Qd,Qe,Qf,Qg,Qh,Qi,Qj,Qk,Ql,Qm,Qn,true_and,and_true,Qo,Qp,Qq,Qr,Qs,Qt,Qu,Qv,Qw,Qx,Qy,Qz,Ra,Rb,Rc,Rd,Re,Rf,Rg,Rh,Ri,Rj,Rk,Rl,Rm,Ya,Yb,Yc,Rn,Ro,Rp,Yd,Ye,Rq,Rs,Rt,Ru,Rv,Rw,Rx]
      refine hadd.mono ?_
      rintro _ s3 ⟨rfl,v',i',_,g3,k3⟩
      rw[setV_set]at g3
      have g3:=g3.less (B':=B) fun j hj=>.inl hj
      have k3:Keep B s s3:=⟨Nat.le_trans ho2.1 k3.1,fun j hj=>(k3.2 j (.inl hj)).trans (ho2.2 j (hB j hj))⟩
      simp only[c12o26,bld_pair,hmv,Qa,Qb,Qc,Qd,Qe,Qf,Qg,Qh,Qi,Qj,Qk,Ql,Qm,Qn,true_and,and_true,Qo,Qp,Qq,Qr,Qs,Qt,Qu,Qv,Qw,Qx,Qy,Qz,Ra,Rb,Rc,Rd,Re,Rf,Rg,Rh,Ri,Rj,Rk,Rl,Rm,Ya,Yb,Yc,Rn,Ro,Rp,Yd,Ye,Rq,Rs,Rt,Ru,Rv,Rw,Rx]
      refine add_pair hE g3 (setV_same V q v') i' ⟨by omega,by omega,.inl h3⟩ 1 (-1) ⟨by omega,by omega⟩ ⟨by omega,by omega⟩ ?_
      intro s4 v4 i4 g4 k4
      rw[setV_set]at g4
      simp only[c12o27,e6,hcast,Qa,Qb,Qc,Qd,Qe,Qf,Qg,Qh,Qi,Qj,Qk,Ql,Qm,Qn,true_and,and_true,Qo,Qp,Qq,Qr,Qs,Qt,Qu,Qv,Qw,Qx,Qy,Qz,Ra,Rb,Rc,Rd,Re,Rf,Rg,Rh,Ri,Rj,Rk,Rl,Rm,Ya,Yb,Yc,Rn,Ro,Rp,Yd,Ye,Rq,Rs,Rt,Ru,Rv,Rw,Rx]
      subst hW
      have hone:∀y∈([1,-1]:List Int),VL n y:=fun y hy=>by
        rcases List.mem_cons.1 hy with e | e
        · rw[e];exact⟨by omega,by omega⟩
        · rw[List.mem_singleton.1 e];exact⟨by omega,by omega⟩
      refine ih (k+1) s4 v4 (F++[f]++[[1,-1]]) (A+1+1) _ _ _ _ _ hd' hlt g4 ((hK.trans k3).trans k4) i4 (by omega) (fun g hg=>?_) fun σ=>?_
      · rcases List.mem_append.1 hg with e | e
        · rcases List.mem_append.1 e with e | e
          · exact hF g e
          · rw[List.mem_singleton.1 e];exact fun y hy=>h6 y ((hfm y).1 hy)
        · rw[List.mem_singleton.1 e];exact hone
      · rw[take_snoc hx,models_snoc,models_snoc,models_snoc,hM σ]
        constructor
        · rintro⟨⟨e,y,hy,hs⟩,_⟩
          exact⟨e,y,(hfm y).1 hy,hs⟩
        · rintro⟨e,y,hy,hs⟩
          exact⟨⟨e,y,(hfm y).2 hy,hs⟩,sat_taut⟩
    have r1:=rem_nat (s:=s1) (a:=k) (b:=3) (by decide)
    have hr1:=hr'.old hB hold
    obtain⟨a',w',e1',e2',hu',hwB'⟩:=hr1.row hx
    simp only[if_true,c12o23]
    by_cases hz:k % 3=0
    · have hz':decide (((k % 3:Nat):Int)=0)=true:=decide_eq_true (by omega)
      obtain⟨aw,cw,rfl,hsrc⟩:=src_any hu' 3
      have hmp:(ivs L).length=L.length:=List.length_map _
      rw[hmp]at hsrc
      obtain⟨c2,s2,O2,p1,p2,p3,_,p4,p5,p6⟩:=hdst.append (P:=Try.prog) (st:=23) (xt:=23) Try.underlying23 sz3 by3 (by decide) (strx 23 3 Try.underlying23) zero3 hsrc (by rw[hmp,Nat.mul_one]) (cells_ivs L) (by omega) (by omega)
      simp only[hmp]at e1' e2' hu' hwB'
      have e3n:iv ((3:Nat):Int)=iv 3:=rfl
      rw[e3n]at r1
      simp only[r1,hz',c12o24,e1',e2',p1,Qa,Qb,Qc,Qd,Qe,Qf,Qg,Qh,Qi,Qj,Qk,Ql,Qm,Qn,true_and,and_true,Qo,Qp,Qq,Qr,Qs,Qt,Qu,Qv,Qw,Qx,Qy,Qz,Ra,Rb,Rc,Rd,Re,Rf,Rg,Rh,Ri,Rj,Rk,Rl,Rm,Ya,Yb,Yc,Rn,Ro,Rp,Yd,Ye,Rq,Rs,Rt,Ru,Rv,Rw,Rx]
      refine go s2 c2 (L.reverse++L) O2 _ _ _ (by rw[List.length_append,List.length_reverse,ivs_append];exact p2) (fun j hj=>(p6 j hj).elim (hsl j) fun h=>Nat.le_trans hold.1 h) (hold.trans ⟨p3,fun j hj=>p4 j (Nat.lt_of_lt_of_le hj hold.1) fun hm=>by have:=hO j hm;omega⟩) (by rw[List.length_append,List.length_reverse];omega) (fun y=>by simp)
    · have hz' : decide (((k % 3 : Nat) : Int) = 0) = false := decide_eq_false (by omega)
      have e3n:iv ((3:Nat):Int)=iv 3:=rfl
      rw[e3n]at r1
      simp only[r1,hz',Qa,Qb,Qc,Qd,Qe,Qf,Qg,Qh,Qi,Qj,Qk,Ql,Qm,Qn,true_and,and_true,Qo,Qp,Qq,Qr,Qs,Qt,Qu,Qv,Qw,Qx,Qy,Qz,Ra,Rb,Rc,Rd,Re,Rf,Rg,Rh,Ri,Rj,Rk,Rl,Rm,Ya,Yb,Yc,Rn,Ro,Rp,Yd,Ye,Rq,Rs,Rt,Ru,Rv,Rw,Rx]
      exact go s1 c L.reverse O _ _ _ (by rw[List.length_reverse];exact hdst) hsl hold (by rw[List.length_reverse];omega) (fun y=>by simp)
theorem hint_loop {E : Env} (hE : Good E) {s0 : ASt} {B : Nat → Prop} {V : Nat → Option Sv} {n A q b : Nat} {F : List (List Int)} (hbd : Bd n A 0) {os : List Int} (hord : U8s os) (hol : os.length < 9223372036854775808) {ao : Option (Nat × Nat)} {co : Option Nat} (hc : CellsAt b s0 ao (u8vs os)) (hb : ∀ j, j < b → B j)
    (v0 v1 v3 v4 v5 v6 v8 v9 v10 v11 v12 v13 v15 v16 v17 v18 v19 v20 v21:AV) {Q:ARes→Prop}
    (hq:∀s' v y14 y22,Sols B s' (setV V q v)→Keep B s0 s'→SI n A F 0 v→Q ⟨.exit 6,[v0,v1,.slice ao os.length co,v3,v4,v5,v6,ptrA q,v8,v9,v10,v11,v12,v13,y14,v15,v16,v17,v18,v19,v20,v21,y22],[],s'⟩):
    ∀ (m k:Nat) (s:ASt) (v:Sv) (x22:AV),os.length - k≤m→k≤os.length→Sols B s (setV V q v)→Keep B s0 s→SI n A F 0 v →
      WC E none (.loop c12l33) Q [v0,v1,.slice ao os.length co,v3,v4,v5,v6,ptrA q,v8,v9,v10,v11,v12,v13,iv (k:Int),v15,v16,v17,v18,v19,v20,v21,x22] [] s:=by
  intro m
  induction m with
  | zero =>
    intro k s v x22 hm hk hS hK hI
    have hd:decide ((k:Int)<(os.length:Int))=false:=decide_eq_false (by omega)
    refine WC.loop' ?_
    simp only[c12l33,c12o30,len_slice Try.underlying42,hd,Qa,Qb,Qc,Qd,Qe,Qf,Qg,Qh,Qi,Qj,Qk,Ql,Qm,Qn,true_and,and_true,Qo,Qp,Qq,Qr,Qs,Qt,Qu,Qv,Qw,Qx,Qy,Qz,Ra,Rb,Rc,Rd,Re,Rf,Rg,Rh,Ri,Rj,Rk,Rl,Rm,Ya,Yb,Yc,Rn,Ro,Rp,Yd,Ye,Rq,Rs,Rt,Ru,Rv,Rw,Rx]
    exact hq s v _ _ hS hK hI
  | succ m ih =>
    intro k s v x22 hm hk hS hK hI
    by_cases hlt:k<os.length
    · have hd:decide ((k:Int)<(os.length:Int))=true:=decide_eq_true (by omega)
      by_cases h20:k<20
      · have hd2:decide ((k:Int)<20)=true:=decide_eq_true (by omega)
        obtain⟨hx1,hx2⟩:=hord os[k] (List.getElem_mem _)
        obtain⟨p,o,rfl,hp,hload⟩:=hc k _ (get_u8vs (List.getElem?_eq_getElem hlt))
        have e1:=idx_slice (cap:=co) (i:=p) (o:=o) Try.underlying42 sz5 hlt
        have ld:loadV Try.prog s 5 (.ptr (some (p,o+k * 1)))=some (u8v os[k]):=load_one ag5 (by rw[Nat.mul_one,load1_eq (hK.2 p (hb p hp))];exact hload)
        generalize os[k]=w at hx1 hx2 ld
        have q5:=bin_rem (P:=Try.prog) (t:=5) (k:=.u8) (a:=w) (b:=2) hx1 (by decide)
        have e5:=bin_sub Try.prog 3 (k:Int) 1 ⟨by omega,by omega⟩
        have e3:=bin_add Try.prog 3 (k:Int) 1 ⟨by omega,by omega⟩
        have hcast:((k:Int)+1)=((k+1:Nat):Int):=by omega
        have hp:=sols_prefer hE hS (setV_same V q v) hI hbd ((k:Int) - 1) (decide (w % 2=0))
        simp only[ptrA]at hp
        refine WC.loop' ?_
        generalize hW:WC E none (CCode.loop c12l33) Q=W at ih ⊢
        simp only[c12l33,c12o30,len_slice Try.underlying42,hd,hd2,c12o31,e5,e1,ld,q5,bin_eql8,ptrA,Qa,Qb,Qc,Qd,Qe,Qf,Qg,Qh,Qi,Qj,Qk,Ql,Qm,Qn,true_and,and_true,Qo,Qp,Qq,Qr,Qs,Qt,Qu,Qv,Qw,Qx,Qy,Qz,Ra,Rb,Rc,Rd,Re,Rf,Rg,Rh,Ri,Rj,Rk,Rl,Rm,Ya,Yb,Yc,Rn,Ro,Rp,Yd,Ye,Rq,Rs,Rt,Ru,Rv,Rw,Rx]
        refine hp.mono ?_
        rintro _ s' ⟨v',i',g',k'⟩
        rw[setV_set]at g'
        simp only[c12o32,e3,hcast,Qa,Qb,Qc,Qd,Qe,Qf,Qg,Qh,Qi,Qj,Qk,Ql,Qm,Qn,true_and,and_true,Qo,Qp,Qq,Qr,Qs,Qt,Qu,Qv,Qw,Qx,Qy,Qz,Ra,Rb,Rc,Rd,Re,Rf,Rg,Rh,Ri,Rj,Rk,Rl,Rm,Ya,Yb,Yc,Rn,Ro,Rp,Yd,Ye,Rq,Rs,Rt,Ru,Rv,Rw,Rx]
        exact ih (k+1) s' v' _ (by omega) hlt g' (hK.trans k') i'
      · have hd2:decide ((k:Int)<20)=false:=decide_eq_false (by omega)
        refine WC.loop' ?_
        simp only[c12l33,c12o30,len_slice Try.underlying42,hd,hd2,Qa,Qb,Qc,Qd,Qe,Qf,Qg,Qh,Qi,Qj,Qk,Ql,Qm,Qn,true_and,and_true,Qo,Qp,Qq,Qr,Qs,Qt,Qu,Qv,Qw,Qx,Qy,Qz,Ra,Rb,Rc,Rd,Re,Rf,Rg,Rh,Ri,Rj,Rk,Rl,Rm,Ya,Yb,Yc,Rn,Ro,Rp,Yd,Ye,Rq,Rs,Rt,Ru,Rv,Rw,Rx]
        exact hq s v _ _ hS hK hI
    · have hd:decide ((k:Int)<(os.length:Int))=false:=decide_eq_false (by omega)
      refine WC.loop' ?_
      simp only[c12l33,c12o30,len_slice Try.underlying42,hd,Qa,Qb,Qc,Qd,Qe,Qf,Qg,Qh,Qi,Qj,Qk,Ql,Qm,Qn,true_and,and_true,Qo,Qp,Qq,Qr,Qs,Qt,Qu,Qv,Qw,Qx,Qy,Qz,Ra,Rb,Rc,Rd,Re,Rf,Rg,Rh,Ri,Rj,Rk,Rl,Rm,Ya,Yb,Yc,Rn,Ro,Rp,Yd,Ye,Rq,Rs,Rt,Ru,Rv,Rw,Rx]
      exact hq s v _ _ hS hK hI
theorem copy_rows{s:ASt}{b:Nat}{v:AV}{us:List AV}(hb:b≤s.next)(hv:SliceAt b s v us)(hcell:allCells us=true)(hl:us.length≤1000000):
    ∃v' s',appendA Try.prog (newObj s (mkRow 23 1 [])) [22,22] [.slice (some (s.next,0)) 0 (some 0),v]=some (v',s')∧Old s.next s s' ∧
      ((us=[]∧v'=.slice (some (s.next,0)) 0 (some 0)∧s.next<s'.next)∨(us≠[]∧∃i,v'=.slice (some (i,0)) us.length none∧s.next≤i∧i<s'.next∧RowAt s' i us)):=by
  have o1:Old s.next s (newObj s (mkRow 23 1 [])):=Old.new s _
  obtain⟨ax,cx,rfl,hc⟩:=hv
  generalize hs1:newObj s (mkRow 23 1 [])=s1 at o1 ⊢
  have n1:s1.next=s.next+1:=by rw[← hs1];rfl
  have hld:loadN s1 s.next 0 (0 * 1)=some []:=by
    obtain⟨r,h1,h2,_⟩:=holds_mkRow 23 1 []
    exact loadN_holds (s:=s1) (i:=s.next) (by rw[← hs1,heap_new,if_pos rfl,h1]) h2 0 [] (Nat.le_refl _) (fun j u hj=>by simp at hj)
  have hx:isSliceOrStr Try.prog 22=true:=strx 22 23 Try.underlying22
  have hc1:CellsAt b s1 ax us:=hc.old o1 hb
  obtain⟨ax',cx',e',hsrc⟩:=src_any (⟨ax,cx,rfl,hc1⟩:SliceAt b s1 (.slice ax us.length cx) us) 23
  cases hLc:us with
  | nil =>
    subst hLc
    refine⟨.slice (some (s.next,0)) 0 (some 0),s1,?_,o1,.inl ⟨rfl,rfl,by omega⟩⟩
    rw[appendA_eq Try.underlying22 sz23 by23 (by decide) hx hsrc rfl (by simp) (by simp)]
    rfl
  | cons x T =>
    rw[← hLc]
    have hne:0<us.length:=by rw[hLc];simp
    refine⟨.slice (some (s1.next,0)) us.length none,newObj s1 (grownRow 23 1 (Tree.fill .leaf 0 us) us.length none),?_,o1.trans ((Old.new s1 _).mono (by omega)),.inr ⟨by rw[hLc];simp,s1.next,rfl,by omega,Nat.lt_succ_self _,_,by rw[heap_new,if_pos rfl];rfl,⟨rfl,?_⟩,rfl,rfl,rfl⟩⟩
    · rw[appendA_eq Try.underlying22 sz23 by23 (by decide) hx hsrc hcell (by omega) (by omega)]
      simp only[appTo,appExact,Nat.zero_add,show Nat.ble us.length 0=false from ble_off (by omega),cond_false,hld,Option.bind_some,appFresh,guardB,zero23,cond_true,List.nil_append,Nat.zero_add]
    · intro k u hk
      have hlt:=lt_of_get hk
      show(Tree.fill .leaf 0 us).get k=some u
      rw[Tree.get_fill,if_pos ⟨Nat.zero_le _,by omega⟩]
      simpa using hk
theorem RowAt.sliceAt{s:ASt}{i:Nat}{cs:List AV}(h:RowAt s i cs)(hi:i<s.next):SliceAt s.next s (.slice (some (i,0)) cs.length none) cs:=
  ⟨some (i,0),none,rfl,fun k u hk=>⟨i,0,rfl,hi,by rw[Nat.zero_add];exact h.load1 hk⟩⟩
theorem zip_at{us:List AV}{cs:List (List Int)}{x:Pr}(h:x∈us.zip cs):∃k:Nat,us[k]? = some x.1∧cs[k]? = some x.2:=by
  obtain⟨k,hk⟩:=List.mem_iff_getElem?.1 h
  exact⟨k,List.getElem?_zip_eq_some.1 hk⟩
theorem RowCells.at{b:Nat}{s:ASt}{us:List AV}{cs:List (List Int)}(h:RowCells b s us cs){x:Pr}(hx:x∈us.zip cs):x.1∈us∧SliceAt b s x.1 (ivs x.2):=by
  obtain⟨k,h1,h2⟩:=zip_at hx
  obtain⟨u,g1,g2⟩:=h.2 k _ h2
  rw[h1]at g1
  injection g1 with g1
  rw[g1]
  exact⟨by rw[← g1];exact List.mem_of_getElem? h1,g2⟩
theorem cells_slices{us:List AV}(h:∀u∈us,u.isCell=true):allCells us=true:=by
  induction us with
  | nil=>rfl
  | cons u us ih =>
    have h1:=h u (List.mem_cons_self ..)
    have h2:=ih fun w hw=>h w (List.mem_cons_of_mem _ hw)
    show(u.isCell && allCells us)=true
    rw[h1,h2]
    rfl
theorem Old.less{b:Nat}{s s':ASt}(h:Old s.next s s')(hb:b≤s.next):Old b s s':=h.mono hb
theorem models_perm{σ:Nat→Bool}{F G:List (List Int)}(h:F.Perm G):Models σ F↔Models σ G:=by
  unfold Models
  exact⟨fun k f hf=>k f (h.mem_iff.2 hf),fun k f hf=>k f (h.mem_iff.1 hf)⟩
theorem told_same{n:Nat}{F G:List (List Int)}{c d:Int}{v w:Sv}(hFG:∀σ,Models σ F↔Models σ G)(hn:n≤6)
    (hc:c=0∧(∀σ,¬ Models σ F)∨c=1∧v.model.length=n+1∧Models (tells v.model) F∨c=2∧(n≤6→729<729)∧[] ∉ F)
    (hd:d=0∧(∀σ,¬ Models σ G)∨d=1∧w.model.length=n+1∧Models (tells w.model) G∨d=2∧(n≤6→729<729)∧[] ∉ G):c=d:=by
  rcases hc with⟨rfl,q⟩ | ⟨rfl,_,q⟩ | ⟨_,q,_⟩
  · rcases hd with ⟨rfl, _⟩ | ⟨_, _, q'⟩ | ⟨_, q', _⟩
    · rfl
    · exact absurd ((hFG _).2 q') (q _)
    · exact absurd (q' hn) (by decide)
  · rcases hd with ⟨_, q'⟩ | ⟨rfl, _⟩ | ⟨_, q', _⟩
    · exact absurd ((hFG _).1 q) (q' _)
    · rfl
    · exact absurd (q' hn) (by decide)
  · exact absurd (q hn) (by decide)
theorem order_rest{E:Env}(hE:Good E){s:ASt}{B:Nat→Prop}{V:Nat→Option Sv}{n p q b:Nat}(hn1:1≤n)(hn:n≤6){vp vq:Sv}(hpq:p≠q)(hVp:V p=some vp)(hS:Sols B s (setV V q vq)){cs ms:List (List Int)}(hIp:SI n cs.length cs 0 vp)(hIq:SI n 0 [] 0 vq)(hcl:cs.length≤40)
    (hperm:ms.Perm cs) (hdr:Drawn n cs) {u:AV} (hr:RowsIn B s u ms) {os:List Int} (hord:U8s os) (hol:os.length<9223372036854775808) {ao:Option (Nat×Nat)} {co:Option Nat} (hc:CellsAt b s ao (u8vs os)) (hb:∀j,j<b→B j)
    (v0 v1 v3 v5 v9 v10 x11 x12 x13 x14 x15 v16 v17 v18 x19 x20 x21 x22:AV):
    Qb E c12o15 (fun V s'=>WC E none (.loop c12l28) (InBlock 2 (seqK (Qa E none (.seq (.seq (.ops c12o29) (.block 6 (.loop c12l33))) (.seq (.ops c12o34) (.seq (.ops c12o35) (.seq (.ops c12o36) (.seq (.ops c12o37) .ret))))) (Ends Try.prog c12.results (fun r _=>r=.bool true))) (Ends Try.prog c12.results (fun r _=>r=.bool true)))) V [] s') []
      [v0,v1,.slice ao os.length co,v3,iv (n:Int),v5,ptrA p,ptrA q,u,v9,v10,x11,x12,x13,x14,x15,v16,v17,v18,x19,x20,x21,x22] s:=by
  have h3:3 ^ n≤1900:=Nat.le_trans (Nat.pow_le_pow_right (by decide) hn) (by decide)
  have hml:=hperm.length_eq
  obtain⟨f1,f2,f3⟩:=hdr.fits
  simp only[c12o15,Qa,Qb,Qc,Qd,Qe,Qf,Qg,Qh,Qi,Qj,Qk,Ql,Qm,Qn,true_and,and_true,Qo,Qp,Qq,Qr,Qs,Qt,Qu,Qv,Qw,Qx,Qy,Qz,Ra,Rb,Rc,Rd,Re,Rf,Rg,Rh,Ri,Rj,Rk,Rl,Rm,Ya,Yb,Yc,Rn,Ro,Rp,Yd,Ye,Rq,Rs,Rt,Ru,Rv,Rw,Rx]
  refine twin_loop hE hn1 hn (fun L hL=>hdr L (hperm.mem_iff.1 hL)) (by omega) hr _ _ _ _ _ _ _ _ _ _ _ _ _ _ _ ?_ ms 0 s vq [] 0 _ _ _ _ _ rfl (Nat.zero_le _) hS (Keep.refl _ _) hIq (by omega) (fun f hf=>by cases hf) (fun σ=>by simp)
  intro s1 v1' F A y11 y12 y13 y19 y20 y21 g1 k1 i1 hA hF hM
  have hFc:∀σ,Models σ cs↔Models σ F:=fun σ=>((hM σ).trans (models_perm hperm)).symm
  simp only[if_true,c12o29,Qa,Qb,Qc,Qd,Qe,Qf,Qg,Qh,Qi,Qj,Qk,Ql,Qm,Qn,true_and,and_true,Qo,Qp,Qq,Qr,Qs,Qt,Qu,Qv,Qw,Qx,Qy,Qz,Ra,Rb,Rc,Rd,Re,Rf,Rg,Rh,Ri,Rj,Rk,Rl,Rm,Ya,Yb,Yc,Rn,Ro,Rp,Yd,Ye,Rq,Rs,Rt,Ru,Rv,Rw,Rx]
  have hc1:CellsAt b s1 ao (u8vs os):=hc.old (b':=b) ⟨k1.1,fun j hj=>k1.2 j (hb j hj)⟩ (Nat.le_refl _)
  refine hint_loop hE (A:=A) ⟨by omega,by omega,.inl h3⟩ hord hol hc1 hb _ _ _ _ _ _ _ _ _ _ _ _ _ _ _ _ _ _ _ ?_ os.length 0 s1 v1' _ (by omega) (Nat.zero_le _) g1 (Keep.refl _ _) i1
  intro s2 v2' y14 y22 g2 k2 i2
  have hVq:setV V q v2' q=some v2':=setV_same V q v2'
  have hVp2:setV V q v2' p=some vp:=by rw[setV_ne hpq];exact hVp
  have e729:iv ((729:Nat):Int)=iv 729:=rfl
  have hs1:=sols_solve hE g2 hVp2 hIp (hbd:=⟨by omega,by omega,.inl h3⟩) (most:=729) (by decide) f3
  simp only[ptrA,e729]at hs1
  simp only[if_true,c12o34,ptrA,Qa,Qb,Qc,Qd,Qe,Qf,Qg,Qh,Qi,Qj,Qk,Ql,Qm,Qn,true_and,and_true,Qo,Qp,Qq,Qr,Qs,Qt,Qu,Qv,Qw,Qx,Qy,Qz,Ra,Rb,Rc,Rd,Re,Rf,Rg,Rh,Ri,Rj,Rk,Rl,Rm,Ya,Yb,Yc,Rn,Ro,Rp,Yd,Ye,Rq,Rs,Rt,Ru,Rv,Rw,Rx]
  refine hs1.mono ?_
  rintro _ s3 ⟨c,vp3,rfl,_,_,hc3,g3,k3⟩
  have hVq3:setV (setV V q v2') p vp3 q=some v2':=by rw[setV_ne (fun e=>hpq e.symm)];exact hVq
  have hs2:=sols_solve hE g3 hVq3 i2 (hbd:=⟨by omega,by omega,.inl h3⟩) (most:=729) (by decide) hF
  simp only[ptrA,e729]at hs2
  simp only[Qa,Qb,Qc,Qd,Qe,Qf,Qg,Qh,Qi,Qj,Qk,Ql,Qm,Qn,true_and,and_true,Qo,Qp,Qq,Qr,Qs,Qt,Qu,Qv,Qw,Qx,Qy,Qz,Ra,Rb,Rc,Rd,Re,Rf,Rg,Rh,Ri,Rj,Rk,Rl,Rm,Ya,Yb,Yc,Rn,Ro,Rp,Yd,Ye,Rq,Rs,Rt,Ru,Rv,Rw,Rx]
  refine hs2.mono ?_
  rintro _ s4 ⟨d,vq4,rfl,i4,_,hc4,g4,k4⟩
  obtain rfl:=told_same hFc hn hc3 hc4
  have e3:=bin_add Try.prog 3 (n:Int) 3 ⟨by omega,by omega⟩
  have hcast:((n:Int)+3)=((n+3:Nat):Int):=by omega
  rw[hcast]at e3
  obtain⟨j1,_,_,_⟩:=i4.inv ⟨by omega,by omega,.inl h3⟩
  have z:=j1.fit.siz
  have hsz:Szs 900 vq4:=⟨by rw[z.w];omega,by rw[z.value];omega,by rw[z.level];omega,by rw[z.why];omega,by rw[z.heat];omega,by rw[z.phase];omega⟩
  have hg1:=sols_grow hE g4 (setV_same _ q vq4) (n:=n+3) (by omega) hsz
  simp only[ptrA]at hg1
  simp only[decide_true,c12o35,e3,ptrA,Qa,Qb,Qc,Qd,Qe,Qf,Qg,Qh,Qi,Qj,Qk,Ql,Qm,Qn,true_and,and_true,Qo,Qp,Qq,Qr,Qs,Qt,Qu,Qv,Qw,Qx,Qy,Qz,Ra,Rb,Rc,Rd,Re,Rf,Rg,Rh,Ri,Rj,Rk,Rl,Rm,Ya,Yb,Yc,Rn,Ro,Rp,Yd,Ye,Rq,Rs,Rt,Ru,Rv,Rw,Rx]
  refine hg1.mono ?_
  rintro _ s5 ⟨g5,k5⟩
  rw[setV_set]at g5
  have hv5:(growV vq4 (n+3)).value.length=n+3+1:=by
    unfold growV
    rw[growN_val,z.value]
    omega
  have hsz5:Szs 900 (growV vq4 (n+3)):=by
    have hsmall:Szs 100 vq4:=⟨by rw[z.w];omega,by rw[z.value];omega,by rw[z.level];omega,by rw[z.why];omega,by rw[z.heat];omega,by rw[z.phase];omega⟩
    have:=growN_szs (n+3+1 - vq4.value.length) hsmall
    obtain⟨a1,a2,a3,a4,a5,a6⟩:=this
    exact⟨by unfold growV;omega,by unfold growV;omega,by unfold growV;omega,by unfold growV;omega,by unfold growV;omega,by unfold growV;omega⟩
  have hg2:=sols_grow hE g5 (setV_same _ q _) (n:=1) (by decide) hsz5
  have e1:iv ((1:Nat):Int)=iv 1:=rfl
  simp only[ptrA,e1]at hg2
  simp only[c12o36,ptrA,Qa,Qb,Qc,Qd,Qe,Qf,Qg,Qh,Qi,Qj,Qk,Ql,Qm,Qn,true_and,and_true,Qo,Qp,Qq,Qr,Qs,Qt,Qu,Qv,Qw,Qx,Qy,Qz,Ra,Rb,Rc,Rd,Re,Rf,Rg,Rh,Ri,Rj,Rk,Rl,Rm,Ya,Yb,Yc,Rn,Ro,Rp,Yd,Ye,Rq,Rs,Rt,Ru,Rv,Rw,Rx]
  refine hg2.mono ?_
  rintro _ s6 ⟨g6,k6⟩
  rw[setV_set]at g6
  have hv6:(growV (growV vq4 (n+3)) 1).value.length=n+3+1:=by
    rw[← hv5]
    show(growN (1+1 - _) _).value.length=_
    rw[growN_val,hv5]
    omega
  have hvars:=sols_vars hE g6 (setV_same _ q _) (n:=n+3) (by omega) hv6
  simp only[ptrA]at hvars
  simp only[c12o37,ptrA,Qa,Qb,Qc,Qd,Qe,Qf,Qg,Qh,Qi,Qj,Qk,Ql,Qm,Qn,true_and,and_true,Qo,Qp,Qq,Qr,Qs,Qt,Qu,Qv,Qw,Qx,Qy,Qz,Ra,Rb,Rc,Rd,Re,Rf,Rg,Rh,Ri,Rj,Rk,Rl,Rm,Ya,Yb,Yc,Rn,Ro,Rp,Yd,Ye,Rq,Rs,Rt,Ru,Rv,Rw,Rx]
  refine hvars.mono ?_
  rintro _ _ ⟨rfl,rfl⟩
  simp only[e3,decide_true,c12,Qa,Qb,Qc,Qd,Qe,Qf,Qg,Qh,Qi,Qj,Qk,Ql,Qm,Qn,true_and,and_true,Qo,Qp,Qq,Qr,Qs,Qt,Qu,Qv,Qw,Qx,Qy,Qz,Ra,Rb,Rc,Rd,Re,Rf,Rg,Rh,Ri,Rj,Rk,Rl,Rm,Ya,Yb,Yc,Rn,Ro,Rp,Yd,Ye,Rq,Rs,Rt,Ru,Rv,Rw,Rx]
theorem order_ok {E : Env} (hE : Good E) {s : ASt} {b : Nat} (hb : b ≤ s.next) {d : Int} (hd : u8 d) {bs os : List Int} (hbs : U8s bs) (hlen : bs.length < 9223372036854775808) (hos : U8s os) (hol : os.length < 9223372036854775808) {v w : AV} (hv : SliceAt b s v (u8vs bs)) (hw : SliceAt b s w (u8vs os)) :
    WF E 12 [u8v d,v,w] (fun r _=>r=.bool true) s:=by
  obtain⟨n,hn1,hn2,q1,q2,q3⟩:=vars_drawn (s:=s) hd (k:=6) (by decide)
  have hn2:n≤6:=hn2
  have hconv:∀s,convA Try.prog s 5 3 (u8v (d % 6))=some (iv (d % 6)):=fun s=>conv_u8 ⟨Int.emod_nonneg d (by decide),by have:=Int.emod_lt_of_pos d (show(0:Int)<6 by decide);omega⟩
  refine hE.go comp12 (by decide) rfl ?_
  simp only[c12,c12o0,c12o1,Qa,Qb,Qc,Qd,Qe,Qf,Qg,Qh,Qi,Qj,Qk,Ql,Qm,Qn,true_and,and_true,Qo,Qp,Qq,Qr,Qs,Qt,Qu,Qv,Qw,Qx,Qy,Qz,Ra,Rb,Rc,Rd,Re,Rf,Rg,Rh,Ri,Rj,Rk,Rl,Rm,Ya,Yb,Yc,Rn,Ro,Rp,Yd,Ye,Rq,Rs,Rt,Ru,Rv,Rw,Rx]
  refine(works_ok hE (sols_none s)).mono ?_
  rintro _ s1 ⟨rfl,k1⟩
  have ho1:=k1.toOld hb
  have hb1:=Nat.le_trans hb k1.1
  simp only[c12o3,q1,hconv,q3,c12o4,Qa,Qb,Qc,Qd,Qe,Qf,Qg,Qh,Qi,Qj,Qk,Ql,Qm,Qn,true_and,and_true,Qo,Qp,Qq,Qr,Qs,Qt,Qu,Qv,Qw,Qx,Qy,Qz,Ra,Rb,Rc,Rd,Re,Rf,Rg,Rh,Ri,Rj,Rk,Rl,Rm,Ya,Yb,Yc,Rn,Ro,Rp,Yd,Ye,Rq,Rs,Rt,Ru,Rv,Rw,Rx]
  refine(drawn_ok hE hb1 hn1 (by omega) (most:=40) (by decide) hbs hlen (hv.old ho1 (Nat.le_refl _))).mono ?_
  rintro l s2 ⟨us,cs,O,hmd,hdr,hcl,ho2⟩
  have hb2:=Nat.le_trans hb1 ho2.1
  have hR:=hmd.rowsIn
  obtain⟨f1,f2,f3⟩:=hdr.fits
  simp only[c12o5,Qa,Qb,Qc,Qd,Qe,Qf,Qg,Qh,Qi,Qj,Qk,Ql,Qm,Qn,true_and,and_true,Qo,Qp,Qq,Qr,Qs,Qt,Qu,Qv,Qw,Qx,Qy,Qz,Ra,Rb,Rc,Rd,Re,Rf,Rg,Rh,Ri,Rj,Rk,Rl,Rm,Ya,Yb,Yc,Rn,Ro,Rp,Yd,Ye,Rq,Rs,Rt,Ru,Rv,Rw,Rx]
  refine(of32_ok hE (sols_none s2) (n:=n) (by omega) f1 (by omega) hR).mono ?_
  rintro _ s3 ⟨p,vp,rfl,_,g3,k3,i3,_⟩
  simp only[ptrA,Qa,Qb,Qc,Qd,Qe,Qf,Qg,Qh,Qi,Qj,Qk,Ql,Qm,Qn,true_and,and_true,Qo,Qp,Qq,Qr,Qs,Qt,Qu,Qv,Qw,Qx,Qy,Qz,Ra,Rb,Rc,Rd,Re,Rf,Rg,Rh,Ri,Rj,Rk,Rl,Rm,Ya,Yb,Yc,Rn,Ro,Rp,Yd,Ye,Rq,Rs,Rt,Ru,Rv,Rw,Rx]
  refine(sols_new hE g3 (n:=n) (by omega)).mono ?_
  rintro _ s4 ⟨vq,rfl,hVq,g4,k4,i4,_⟩
  have hVp:setV (fun _=>none) p vp p=some vp:=setV_same _ p vp
  have hpq:p≠s3.next:=fun e=>by rw[← e,hVp]at hVq;cases hVq
  generalize s3.next=q at *
  have he:=eq_ptr44 p
  simp only[ptrA]at he
  have b0:=bld_zero (P:=Try.prog) (t:=22) Try.underlying22 sz23 zr23 rfl
  have hmv:∀ (m:Nat) (i:Nat),Made.val i (.slice m)=.slice (some (i,0)) m (some m):=fun _ _=>rfl
  have hK24:=k3.trans k4
  have husl:=hmd.rows.1
  have hsl4:SliceAt s4.next s4 l us:=(hmd.dest.slice.keep fun j hj=>hK24.2 j (hmd.dest.slot_lt j hj)).mono hK24.1
  have hz:=hmd.rows
  have hat:∀x∈us.zip cs,x.1∈us∧SliceAt s2.next s2 x.1 (ivs x.2):=fun x hx=>hz.at hx
  have hfst:(us.zip cs).map Prod.fst=us:=List.map_fst_zip (by omega)
  have hsnd:(us.zip cs).map Prod.snd=cs:=List.map_snd_zip (by omega)
  have hcellx:∀x∈us.zip cs,x.1.isCell=true∧x.1.cells=[x.1]:=fun x hx=>by
    obtain⟨a,cap,e,_⟩:=(hat x hx).2
    rw[e]
    exact⟨rfl,rfl⟩
  have hcells:allCells us=true:=cells_slices fun u hu=>by
    rw[← hfst]at hu
    obtain⟨x,hx,rfl⟩:=List.mem_map.1 hu
    exact(hcellx x hx).1
  obtain⟨m,s5,happ,ho5,hm⟩:=copy_rows (Nat.le_refl _) hsl4 hcells (by omega)
  have g5:=g4.old ho5
  have ho25:Keep (fun j=>j<s2.next) s2 s5:=hK24.trans ⟨ho5.1,fun j hj=>ho5.2 j (Nat.lt_of_lt_of_le hj hK24.1)⟩
  have hw5:SliceAt b s5 w (u8vs os):=((hw.old ho1 (Nat.le_refl _)).old (ho2.less hb1) (Nat.le_refl _)).old (ho25.toOld hb2) (Nat.le_refl _)
  obtain⟨ao,co,rfl,hco⟩:=hw5
  have hol':(u8vs os).length=os.length:=List.length_map _
  rw[hol']
  simp only[c12o6,he,c12o8,b0,hmv,happ,c12o9,Qa,Qb,Qc,Qd,Qe,Qf,Qg,Qh,Qi,Qj,Qk,Ql,Qm,Qn,true_and,and_true,Qo,Qp,Qq,Qr,Qs,Qt,Qu,Qv,Qw,Qx,Qy,Qz,Ra,Rb,Rc,Rd,Re,Rf,Rg,Rh,Ri,Rj,Rk,Rl,Rm,Ya,Yb,Yc,Rn,Ro,Rp,Yd,Ye,Rq,Rs,Rt,Ru,Rv,Rw,Rx]
  rcases hm with⟨hus,rfl,hlt5⟩ | ⟨hus,i,rfl,hi1,hi2,hrow⟩
  · have hcs:cs=[]:=by rw[hus]at husl;exact List.length_eq_zero_iff.1 husl.symm
    subst hcs
    have hrest:=order_rest hE hn1 hn2 hpq hVp g5 i3 i4 (Nat.zero_le _) (List.Perm.refl []) hdr (u:=.slice (some (s4.next,0)) 0 (some 0))
      ⟨[],⟨some (s4.next,0),some 0,rfl,CellsAt.nil⟩,fun j hj=>(by simp[slot]at hj;subst hj;exact .inr ⟨Nat.le_refl _,hlt5⟩),RowCells.nil _ _,fun u hu=>(by cases hu)⟩ hos hol (co:=co) hco (fun j hj=>.inl (by omega))
    refine WC.loop' ?_
    have hd0:decide ((0:Int)<((0:Nat):Int))=false:=by decide
    simp only[c12l14,c12o10,len_slice Try.underlying22,hd0,Qa,Qb,Qc,Qd,Qe,Qf,Qg,Qh,Qi,Qj,Qk,Ql,Qm,Qn,true_and,and_true,Qo,Qp,Qq,Qr,Qs,Qt,Qu,Qv,Qw,Qx,Qy,Qz,Ra,Rb,Rc,Rd,Re,Rf,Rg,Rh,Ri,Rj,Rk,Rl,Rm,Ya,Yb,Yc,Rn,Ro,Rp,Yd,Ye,Rq,Rs,Rt,Ru,Rv,Rw,Rx]
    simp only[if_true]
    simp only[c12,Qa,Qb,Qc,Qd,Qe,Qf,Qg,Qh,Qi,Qj,Qk,Ql,Qm,Qn,true_and,and_true,Qo,Qp,Qq,Qr,Qs,Qt,Qu,Qv,Qw,Qx,Qy,Qz,Ra,Rb,Rc,Rd,Re,Rf,Rg,Rh,Ri,Rj,Rk,Rl,Rm,Ya,Yb,Yc,Rn,Ro,Rp,Yd,Ye,Rq,Rs,Rt,Ru,Rv,Rw,Rx]at hrest ⊢
    exact hrest _ _ _ _ _ _ _ _ _ _ _ _ _ _ _ _ _ _
  · have hzl:us.length=(us.zip cs).length:=by rw[List.length_zip];omega
    rw[hzl]
    refine swap_loop hE (b:=b) (i:=i) (by have:=hK24.1;omega) hos hco (ps0:=us.zip cs) (by omega) hcellx _ _ _ _ _ _ _ _ _ _ _ _ _ _ _ _ _ _ ?_ (us.zip cs).length 0 s5 (us.zip cs) _ _ (by omega) (by rw[hfst];exact hrow) (List.Perm.refl _) rfl (fun _ _=>rfl)
    intro s6 ps y9 y10 y18 hr6 hP hn6 hf6
    have g6:=(g5.frame (s':=s6) (by omega) (fun j hj hB=>hf6 j (fun e=>hB (.inr ⟨by omega,by omega⟩)))).less (B':=fun j=>j<s2.next∨(s4.next≤j∧j<s5.next)) fun j hj=>.inl hj
    have hpl:=hP.length_eq
    have hin:∀x∈ps,∀j,slot x.1=some j→j<s2.next:=fun x hx j hj=>(hmd.slots x.1 (hat x (hP.mem_iff.1 hx)).1 j hj).2.1
    have hr:RowsIn (fun j=>j<s2.next∨(s4.next≤j∧j<s5.next)) s6 (.slice (some (i,0)) (us.zip cs).length none) (ps.map Prod.snd):=by
      refine⟨ps.map Prod.fst,?_,fun j hj=>?_,⟨by rw[List.length_map,List.length_map],fun k L hk=>?_⟩,fun u hu j hj=>?_⟩
      · have:=hr6.sliceAt (by omega)
        rw[List.length_map,hpl]at this
        exact this
      · simp [slot] at hj
        subst hj
        exact .inr ⟨hi1,hi2⟩
      · rw[List.getElem?_map]at hk
        cases hx:ps[k]? with
        | none=>rw[hx]at hk;cases hk
        | some x =>
          rw[hx]at hk
          injection hk with hk
          have hm:=List.mem_of_getElem? hx
          refine⟨x.1,pr_get hx,?_⟩
          rw[← hk]
          refine((hat x (hP.mem_iff.1 hm)).2.keep fun j hj=>?_).mono (by have:=ho25.1;omega)
          have hjl:=hin x hm j hj
          rw[hf6 j (by have:=hK24.1;omega)]
          exact ho25.2 j hjl
      · obtain⟨x,hx,rfl⟩:=List.mem_map.1 hu
        exact .inl (hin x hx j hj)
    have hperm:(ps.map Prod.snd).Perm cs:=by
      have:=hP.map Prod.snd
      rw[hsnd]at this
      exact this
    have hco6:CellsAt b s6 ao (u8vs os):=hco.old (b':=b) ⟨by omega,fun j hj=>hf6 j (by have:=hK24.1;omega)⟩ (Nat.le_refl _)
    have hrest:=order_rest hE hn1 hn2 hpq hVp g6 i3 i4 hcl hperm hdr hr hos hol (co:=co) hco6 (fun j hj=>.inl (by omega))
    simp only[c12,Qa,Qb,Qc,Qd,Qe,Qf,Qg,Qh,Qi,Qj,Qk,Ql,Qm,Qn,true_and,and_true,Qo,Qp,Qq,Qr,Qs,Qt,Qu,Qv,Qw,Qx,Qy,Qz,Ra,Rb,Rc,Rd,Re,Rf,Rg,Rh,Ri,Rj,Rk,Rl,Rm,Ya,Yb,Yc,Rn,Ro,Rp,Yd,Ye,Rq,Rs,Rt,Ru,Rv,Rw,Rx]at hrest
    simp only[if_true,c12,Qa,Qb,Qc,Qd,Qe,Qf,Qg,Qh,Qi,Qj,Qk,Ql,Qm,Qn,true_and,and_true,Qo,Qp,Qq,Qr,Qs,Qt,Qu,Qv,Qw,Qx,Qy,Qz,Ra,Rb,Rc,Rd,Re,Rf,Rg,Rh,Ri,Rj,Rk,Rl,Rm,Ya,Yb,Yc,Rn,Ro,Rp,Yd,Ye,Rq,Rs,Rt,Ru,Rv,Rw,Rx]
    exact hrest _ _ _ _ _ _ _ _ _ _ _ _ _ _ _ _ _ _
section
variable{H:Type}{enc:TypeId×Value→H}{W:World}{base:Nat}
theorem order19_true{v0 v1 v2:Value}(h0:Value.okWide Try.prog W .any base 5 v0)(h1:Value.okWide Try.prog W .any base 42 v1)(h2:Value.okWide Try.prog W .any base 42 v2)
    {d0 d1 d2:DataW H} {p0 p1 p2:List MemPlace} (t0:DataW.Trod enc Try.prog W 0 (fun _=>true) true 5 v0 d0 p0) (t1:DataW.Trod enc Try.prog W 0 (fun _=>true) true 42 v1 d1 p1) (t2:DataW.Trod enc Try.prog W 0 (fun _=>true) true 42 v2 d2 p2):
    Calls Try.prog 12 #[v0,v1,v2] W fun e W'=>e=.returned (.bool true)∧Kept W W':=by
  obtain⟨ρ,s,d,u,w,bs,xs,hd,r0,r1,r2,q1,⟨a1,a2,a3⟩,b1,b2,b3⟩:=enter_ubb h0 h1 h2 t0 t1 t2
  refine call_true hd (.cons r0 (.cons r1 (.cons r2 .nil))) ?_
  exact order_ok good_envW (Nat.le_refl _) q1 a2 a3 b2 b3 a1 b1
end
end
end Go.Proofs.Ytilhhmkdcoajnaa.Am
