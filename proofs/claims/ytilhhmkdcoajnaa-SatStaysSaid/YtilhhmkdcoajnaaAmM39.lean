/- The solver's functions, told by clauses and models; conditions: sizes fit. -/
import Derived.Test.YtilhhmkdcoajnaaAmM38
import Derived.Test.YtilhhmkdcoajnaaAmSatLaw
import Derived.Test.YtilhhmkdcoajnaaAmM32
import Derived.Test.YtilhhmkdcoajnaaAmM35
set_option linter.unusedVariables false
set_option linter.unusedSimpArgs false
set_option maxRecDepth 16000
namespace Go.Proofs.Ytilhhmkdcoajnaa.Am
open Go Go.Proofs
noncomputable section
def SI(n A:Nat)(F:List (List Int))(M:Nat)(v:Sv):Prop:=(∃C,Live n A F C v∧v.limits=[]∧C.length≤M)∨Dead n F M v
def Bd(n A M:Nat):Prop:=n≤1000∧A≤10000∧(3 ^ n≤1900∨M≤1900)
theorem Live.few{n A:Nat}{F:List (List Int)}{C:List Nat}{v:Sv}{M:Nat}(h:Live n A F C v)(hM:C.length≤M)(hb:Bd n A M):C.length≤1900:=by
  rcases hb.2.2 with q | q
  · have:=h.cod.len;omega
  · omega
theorem SI.inv{n A:Nat}{F:List (List Int)}{M:Nat}{v:Sv}(h:SI n A F M v)(hb:Bd n A M):Inv1 n v∧v.limits=[]∧v.trace.length≤1000000∧Tot v.watches≤50000000:=by
  rcases h with⟨C,h1,h2,h3⟩ | h
  · have := h1.few h3 hb
    have:=h1.cod.trc
    have:=h1.cod.tot
    have:=hb.2.1
    exact⟨h1.ci.ct.inv,h2,by omega,by omega⟩
  · exact⟨h.inv.inv,h.lim,h.trc,h.inv.tot⟩
theorem back_lim{v:Sv}(h:v.limits=[]):backV v 0=v:=back_none (by rw[h];exact Nat.le_refl _)
theorem Dead.mono{n:Nat}{F F':List (List Int)}{M M':Nat}{v:Sv}(h:Dead n F M v)(hM:M≤M')(hF:∀σ,Models σ F'→Models σ F):Dead n F' M' v:=
  ⟨h.brk,h.inv,h.lim,h.trc,by have:=h.many;omega,fun σ hσ=>h.no σ (hF σ hσ)⟩
theorem Live.ne{n A:Nat}{F:List (List Int)}{C:List Nat}{v:Sv}(h:Live n A F C v):[] ∉ F:=fun q=>by
  rcases h.ci.cover [] q with⟨y,hy,_⟩ | ⟨c,ls,b,h1,h2⟩
  · cases hy
  · obtain⟨_,c2,_,_⟩:=h.ci.ct.cls c ls b h1
    cases ls with
    | nil=>exact c2 rfl
    | cons y ls=>exact absurd (h2 y (List.mem_cons_self ..)) (by simp)
structure Fresh(k:Nat)(v:Sv):Prop where
  w:v.watches=List.replicate (2 * k) []
  value:v.value=List.replicate k 0
  level:v.level=List.replicate k 0
  why:v.why=List.replicate k none
  heat:v.heat=List.replicate k 0
  phase:v.phase=List.replicate k (-1)
  rest:v.learned=[]∧v.trail=[]∧v.limits=[]∧v.head=0∧v.broken=false∧v.model=[]∧v.trace=[]∧v.many=0∧v.room=2000∧v.cl=fun _=>none
theorem Fresh.one{k:Nat}{v:Sv}(h:Fresh k v):Fresh (k+1) (grow1 v):=by
  have e:∀ {α:Type} (a:α),List.replicate (k+1) a=List.replicate k a++[a]:=fun a=>List.replicate_succ'
  refine⟨?_,?_,?_,?_,?_,?_,h.rest⟩
  · show v.watches++[[],[]]=_
    rw[h.w,show 2 * (k+1)=2 * k+2 by omega,← List.replicate_append_replicate]
    rfl
  · show v.value++[0]=_;rw[h.value,e]
  · show v.level++[0]=_;rw[h.level,e]
  · show v.why++[none]=_;rw[h.why,e]
  · show v.heat++[0]=_;rw[h.heat,e]
  · show v.phase++[-1]=_;rw[h.phase,e]
theorem Fresh.grow:∀ (m:Nat){k:Nat}{v:Sv},Fresh k v→Fresh (k+m) (growN m v)
  | 0,k,v,h=>h
  | m+1,k,v,h=>by
    have:=Fresh.grow m h.one
    rw[show k+(m+1)=k+1+m by omega]
    exact this
theorem fresh_new(n:Nat):Fresh (n+1) (growV newV n):=by
  have h0:Fresh 0 newV:=⟨rfl,rfl,rfl,rfl,rfl,rfl,rfl,rfl,rfl,rfl,rfl,rfl,rfl,rfl,rfl,rfl⟩
  have:=h0.grow (n+1)
  rw[Nat.zero_add]at this
  exact this
theorem getD_rep{α:Type}(m k:Nat)(a:α):(List.replicate m a).getD k a=a:=by
  rw[List.getD_eq_getElem?_getD,List.getElem?_replicate]
  split<;>rfl
theorem Fresh.live {n : Nat} (hn : n < 100000000) {v : Sv} (h : Fresh (n + 1) v) : Live n 0 [] [] v ∧ v.limits = [] := by
  obtain⟨r1,r2,r3,r4,r5,r6,r7,r8,r9,r10⟩:=h.rest
  have hw:∀k,v.watches.getD k []=[]:=fun k=>by rw[h.w];exact getD_rep _ _ _
  have hi:Inv1 n v:=by
    refine⟨⟨⟨hn,by rw[h.w,List.length_replicate];omega,by rw[h.value,List.length_replicate],by rw[h.level,List.length_replicate],by rw[h.why,List.length_replicate],by rw[h.heat,List.length_replicate],by rw[h.phase,List.length_replicate],by rw[r2];exact Nat.zero_le _,by rw[r3];exact Nat.zero_le _⟩,fun x hx=>?_,by rw[r2];simp,by rw[r3];simp⟩,by rw[r2];simp,by rw[r2];simp,fun k _=>by rw[h.value];exact getD_rep _ _ _,fun L hL c hc=>?_⟩
    · rw[h.value]at hx
      have:=List.eq_of_mem_replicate hx
      exact .inr (.inl this)
    · rw [h.w] at hL
      rw[List.eq_of_mem_replicate hL]at hc
      cases hc
  have hcl:∀c l,v.cl c=some l→False:=fun c l hc=>by rw[r10]at hc;cases hc
  refine⟨⟨r5,⟨⟨hi,by rw[r3];exact List.Pairwise.nil,by rw[r3];simp,by rw[r2];simp,by rw[r2];simp,fun c ls b hc=>(hcl _ _ hc).elim⟩,⟨fun c ls b hc=>(hcl _ _ hc).elim,fun k c ls b _ hc=>(hcl _ _ hc).elim,fun k=>by rw[hw];exact List.Pairwise.nil,fun c ls b hc=>(hcl _ _ hc).elim⟩,by rw[r4];exact Nat.zero_le _,by rw[r3];simp,fun c ls b hc=>(hcl _ _ hc).elim,fun j t _ c ls b hc=>(hcl _ _ hc).elim,fun σ _ c ls b hc=>(hcl _ _ hc).elim,by simp,fun k h1 h2=>?_⟩,by rw[r4];exact Int.le_refl _,by rw[r4,r2];exact Int.le_refl _,⟨by simp,by simp,by rw[r8];rfl,by rw[r1];exact Nat.le_refl _,by rw[r7];exact Nat.le_refl _,?_,r9⟩⟩,r3⟩
  · rw[h.phase,List.getD_eq_getElem?_getD,List.getElem?_replicate,if_pos (by omega)]
    exact .inr rfl
  · rw[h.w]
    have:∀m,Tot (List.replicate m [])=0:=fun m=>by
      induction m with
      | zero=>rfl
      | succ m ih =>
        rw[List.replicate_succ]
        show([]:List Nat).length+Tot (List.replicate m [])=0
        rw[ih];rfl
    rw[this]
    exact Nat.zero_le _
theorem new_use{E:Env}(hE:Good E)(ow:Ow){s:ASt}{n:Nat}(hn:n≤1000):
    WF E 40 [iv (n:Int)] (fun r s'=>∃v ow' x',r=ptrA s.next∧SAt ow' s' s.next x' v∧SI n 0 [] 0 v∧v.many=0∧Step (mine s.next) ow s ow' s') s:=by
  refine(new_ok hE ow (n:=n) (by omega)).mono ?_
  rintro _ s' ⟨ow',x',rfl,g1,g2⟩
  obtain⟨h1,h2⟩:=(fresh_new n).live (by omega)
  exact⟨_,ow',x',rfl,g1,.inl ⟨[],h1,h2,Nat.le_refl _⟩,(fresh_new n).rest.2.2.2.2.2.2.2.1,g2⟩
theorem SI.add {n A : Nat} {F : List (List Int)} {M : Nat} {v : Sv} (h : SI n A F M v) (hb : Bd n A M) {f : List Int} (hf : ∀ q ∈ f, VL n q) (hlen : f.length ≤ 12) {v' : Sv} (hr : AddR v f v') : SI n (A + 1) (F ++ [f]) M v' ∧ v'.many = v.many := by
  rcases h with⟨C,h1,h2,h3⟩ | h
  · have hfew:=h1.few h3 hb
    rcases add_ci h1.ci h2 h1.brk hf hlen hr with⟨g1,g2,g3,g4,g5⟩ | ⟨g1,g2,g3,g4,g5,g6⟩
    · refine⟨.inl ⟨C,⟨g1,by rw[g3.head];exact g2,by rw[g3.head];exact h1.h0,by rw[g3.head];have:=h1.h1;omega,⟨h1.cod.nd,fun k hk=>?_,by rw[g3.many];exact h1.cod.many,by rw[g3.learned];exact h1.cod.lrn,by rw[g4];exact h1.cod.trc,by have:=g3.tot;have:=h1.cod.tot;omega,by rw[g3.room];exact h1.cod.room⟩⟩,by rw[g3.limits];exact h2,h3⟩,g3.many⟩
      obtain⟨q1,q2,c,ls,b,q3,q4⟩:=h1.cod.mem k hk
      exact⟨q1,q2,c,ls,b,g3.cl _ _ q3,q4⟩
    · refine ⟨.inr ⟨g1, ⟨g2, ?_, by rw [g3.head]; exact h1.h0, by rw [g3.head, g5]; exact h1.h1⟩, by rw [g3.limits]; exact h2, ?_, ?_, g6⟩, g3.many⟩
      · have := g3.tot
        have:=h1.cod.tot
        have:=hb.2.1
        omega
      · rw[g4]
        have:=h1.cod.trc
        omega
      · rw[g3.many,h1.cod.many]
        omega
  · have e:v'=v:=by
      cases hr with
      | none _=>rfl
      | nil _ hb' _=>rw[h.brk]at hb';cases hb'
      | put _ hb' _ _=>rw[h.brk]at hb';cases hb'
    rw[e]
    exact⟨.inr (h.mono (Nat.le_refl _) fun σ hσ g hg=>hσ g (List.mem_append_left _ hg)),rfl⟩
theorem add_use{E:Env}(hE:Good E){ow:Ow}{s:ASt}{p:Nat}{x:Sf}{v:Sv}(h:SAt ow s p x v){n A:Nat}{F:List (List Int)}{M:Nat}(hI:SI n A F M v)(hbd:Bd n A M){f:List Int}(hf:∀q∈f,VL n q)(hlen:f.length≤12){b:Nat}{u:AV}(hb:b≤s.next)(hu:SliceAt b s u (ivs f))(hus:∀j,slot u=some j→(ow j).1≠p∧j<s.next):
    WF E 36 [ptrA p,u] (fun r s'=>r=iv 0∧∃v' ow' x',SI n (A+1) (F++[f]) M v'∧v'.many=v.many∧SAt ow' s' p x' v'∧Step (mine p) ow s ow' s') s:=by
  obtain⟨i1,i2,i3,i4⟩:=hI.inv hbd
  have hbk:=back_lim i2
  refine(add_ok hE h i1.fit (by rw[hbk];exact i1.fit.val) i3 (by omega) hlen hf hb hu hus).mono ?_
  rintro _ s' ⟨rfl,v',ow',x',g1,g2,g3⟩
  rw[hbk]at g1
  obtain⟨k1,k2⟩:=hI.add hbd hf hlen g1
  exact⟨rfl,v',ow',x',k1,k2,g2,g3⟩
theorem solve_use{E:Env}(hE:Good E){ow:Ow}{s:ASt}{p:Nat}{x:Sf}{v:Sv}(h:SAt ow s p x v){n A:Nat}{F:List (List Int)}{M most:Nat}(hI:SI n A F M v)(hbd:Bd n A (M+most))(hmost:most≤100000)(hF:∀f∈F,∀y∈f,VL n y):
    WF E 34 [ptrA p,iv (most:Int)] (fun r s'=>∃ (c:Int) (v':Sv) (ow':Ow) (x':Sf),r=iv c∧SI n A F (M+most) v'∧(v'.many≤((M+most:Nat):Int))∧(c=0∧(∀σ,¬ Models σ F)∨c=1∧v'.model.length=n+1∧Models (tells v'.model) F∨c=2∧(n≤6→most<729)∧[] ∉ F)∧SAt ow' s' p x' v'∧Step (mine p) ow s ow' s') s:=by
  obtain⟨h1,h2,h3⟩:=hbd
  have start:∃c0,c0≤M∧LoopI n A F c0 most 0 v∧(3 ^ n≤1900∨c0+most≤1900):=by
    rcases hI with⟨C,g1,g2,g3⟩ | g
    · exact⟨C.length,g3,⟨Nat.zero_le _,.inl ⟨C,g1,rfl⟩⟩,h3.imp id fun q=>by omega⟩
    · exact⟨M,Nat.le_refl _,⟨Nat.zero_le _,.inr (g.mono (by omega) fun σ hσ=>hσ)⟩,h3⟩
  obtain⟨c0,s1,s2,s3⟩:=start
  obtain⟨i1,i2,_,_⟩:=hI.inv ⟨h1,h2,h3.imp id fun q=>by omega⟩
  have hbk:=back_lim i2
  refine(solve_ok hE (solve_law (A:=A) (c0:=c0) (most:=most) hF (by omega) s3) (by omega) (by omega) h i1.fit (by rw[hbk];exact s2)).mono ?_
  rintro _ s' ⟨c,v',ow',x',rfl,g1,g2,g3⟩
  rcases g1 with⟨rfl,k⟩ | ⟨rfl,C,k1,k2,k3,k4,k5⟩ | ⟨rfl,C,k1,k2,k3,k4⟩
  · exact⟨0,v',ow',x',rfl,.inr (k.mono (by omega) fun σ hσ=>hσ),by have:=k.many;omega,.inl ⟨rfl,k.no⟩,g2,g3⟩
  · exact⟨1,v',ow',x',rfl,.inl ⟨C,k1,k2,by omega⟩,by rw[k1.cod.many];omega,.inr (.inl ⟨rfl,k4,k5⟩),g2,g3⟩
  · refine⟨2,v',ow',x',rfl,.inl ⟨C,k1,k2,by omega⟩,by rw[k1.cod.many];omega,.inr (.inr ⟨rfl,fun hn=>?_,k1.ne⟩),g2,g3⟩
    have:3 ^ n≤3 ^ 6:=Nat.pow_le_pow_right (by decide) hn
    have e:(3:Nat) ^ 6=729:=rfl
    omega
theorem value_use{E:Env}(hE:Good E){ow:Ow}{s:ASt}{p:Nat}{x:Sf}{v:Sv}(h:SAt ow s p x v){k:Nat}(h1:1≤k):
    WF E 41 [ptrA p,iv (k:Int)] (fun r s'=>r=.bool (tells v.model k)∧s=s') s:=by
  have hne:binA Try.prog .neq 44 (ptrA p) (.ptr none)=some (.bool true):=rfl
  have d1:decide ((0:Int)<(k:Int))=true:=decide_eq_true (by omega)
  have ln:∀s,lenA Try.prog s 23 x.mo=some (iv (v.model.length:Int)):=fun s=>by
    have:=h.model.len Try.underlying23 s
    rw[List.length_map]at this
    exact this
  simp only[ptrA]at hne
  refine hE.go comp41 (by decide) rfl ?_
  by_cases hk:k<v.model.length
  · have d2 : decide ((k : Int) < (v.model.length : Int)) = true := decide_eq_true (by omega)
    have hg:=getD_get (d:=(0:Int)) hk
    have i1:=h.model.addr Try.underlying23 sz3 (k:=k) (by rw[List.length_map];exact hk)
    have i2:=h.model.get (t:=3) ag3 (k:=k) (get_ivs hg)
    simp only[c41,c41o0,c41o1,ptrA,hne,d1,nilCheck_ptr,fa91_11,h.ld_mo,ln,d2,i1,i2,Qa,Qb,Qc,Qd,Qe,Qf,Qg,Qh,Qi,Qj,Qk,Ql,Qm,Qn,true_and,and_true,Qo,Qp,Qq,Qr,Qs,Qt,Qu,Qv,Qw,Qx,Qy,Qz,Ra,Rb,Rc,Rd,Re,Rf,Rg,Rh,Ri,Rj,Rk,Rl,Rm,Ya,Yb,Yc,Rn,Ro,Rp,Yd,Ye,Rq,Rs,Rt,Ru,Rv,Rw,Rx]
    rfl
  · have d2 : decide ((k : Int) < (v.model.length : Int)) = false := decide_eq_false (by omega)
    have e:tells v.model k=false:=by
      unfold tells
      rw[List.getD_eq_getElem?_getD,List.getElem?_eq_none (by omega)]
      rfl
    simp only[c41,c41o0,c41o1,ptrA,hne,d1,nilCheck_ptr,fa91_11,h.ld_mo,ln,d2,Qa,Qb,Qc,Qd,Qe,Qf,Qg,Qh,Qi,Qj,Qk,Ql,Qm,Qn,true_and,and_true,Qo,Qp,Qq,Qr,Qs,Qt,Qu,Qv,Qw,Qx,Qy,Qz,Ra,Rb,Rc,Rd,Re,Rf,Rg,Rh,Ri,Rj,Rk,Rl,Rm,Ya,Yb,Yc,Rn,Ro,Rp,Yd,Ye,Rq,Rs,Rt,Ru,Rv,Rw,Rx]
    rw[e]
def setV(V:Nat→Option Sv)(p:Nat)(v:Sv):Nat→Option Sv:=fun q=>if q=p then some v else V q
theorem setV_same(V:Nat→Option Sv)(p:Nat)(v:Sv):setV V p v p=some v:=if_pos rfl
theorem setV_ne{V:Nat→Option Sv}{p q:Nat}{v:Sv}(h:q≠p):setV V p v q=V q:=if_neg h
theorem setV_set(V:Nat→Option Sv)(p:Nat)(v w:Sv):setV (setV V p v) p w=setV V p w:=by
  funext q
  unfold setV
  split<;>rfl
def Sols(B:Nat→Prop)(s:ASt)(V:Nat→Option Sv):Prop:=∃ow:Ow,(∀p v,V p=some v→∃x,SAt ow s p x v)∧∀j,B j→j<s.next∧V (ow j).1=none
def Keep(B:Nat→Prop)(s s':ASt):Prop:=s.next≤s'.next∧∀j,B j→s'.heap.get j=s.heap.get j
theorem Keep.refl(B:Nat→Prop)(s:ASt):Keep B s s:=⟨Nat.le_refl _,fun _ _=>rfl⟩
theorem Keep.trans{B:Nat→Prop}{s s1 s2:ASt}(h:Keep B s s1)(k:Keep B s1 s2):Keep B s s2:=⟨Nat.le_trans h.1 k.1,fun j hj=>(k.2 j hj).trans (h.2 j hj)⟩
theorem Keep.mono{B B':Nat→Prop}{s s':ASt}(h:Keep B s s')(k:∀j,B' j→B j):Keep B' s s':=⟨h.1,fun j hj=>h.2 j (k j hj)⟩
theorem Sols.less{B B':Nat→Prop}{s:ASt}{V:Nat→Option Sv}(h:Sols B s V)(k:∀j,B' j→B j):Sols B' s V:=by
  obtain⟨ow,h1,h2⟩:=h
  exact⟨ow,h1,fun j hj=>h2 j (k j hj)⟩
theorem Sols.frame{B:Nat→Prop}{s s':ASt}{V:Nat→Option Sv}(h:Sols B s V)(hn:s.next≤s'.next)(hf:∀j,j<s.next→¬ B j→s'.heap.get j=s.heap.get j):Sols (fun j=>B j∨(s.next≤j∧j<s'.next)) s' V:=by
  obtain⟨ow,h1,h2⟩:=h
  have hV:V s.next=none:=by
    cases hv:V s.next with
    | none=>rfl
    | some v =>
      obtain⟨x,hx⟩:=h1 _ v hv
      have:=hx.lt
      omega
  have st:Step (fun t=>V t.1=none) ow s (ext ow s.next (s.next,0,0)) s':=⟨hn,fun x hx _=>ext_lt hx,fun x hx hm=>hf x hx fun q=>hm (h2 x q).2⟩
  refine⟨ext ow s.next (s.next,0,0),fun p v hp=>?_,fun j hj=>?_⟩
  · obtain⟨x,hx⟩:=h1 p v hp
    exact⟨x,hx.keep st fun t ht e=>by rw[e,hp]at ht;cases ht⟩
  · rcases hj with q | ⟨q1, q2⟩
    · obtain⟨r1,r2⟩:=h2 j q
      exact⟨by omega,by rw[ext_lt r1];exact r2⟩
    · exact⟨q2,by rw[ext_ge q1];exact hV⟩
theorem Sols.old{B:Nat→Prop}{s s':ASt}{V:Nat→Option Sv}(h:Sols B s V)(ho:Old s.next s s'):Sols (fun j=>B j∨(s.next≤j∧j<s'.next)) s' V:=h.frame ho.1 fun j hj _=>ho.2 j hj
theorem Keep.old{B:Nat→Prop}{s s':ASt}{V:Nat→Option Sv}(h:Sols B s V)(ho:Old s.next s s'):Keep B s s':=by
  obtain⟨ow,_,h2⟩:=h
  exact⟨ho.1,fun j hj=>ho.2 j (h2 j hj).1⟩
theorem Sols.used{B:Nat→Prop}{s s':ASt}{V:Nat→Option Sv}{ow ow':Ow}{p:Nat}{v v':Sv}{x':Sf}(h1:∀p v,V p=some v→∃x,SAt ow s p x v)(h2:∀j,B j→j<s.next∧V (ow j).1=none)(hp:V p=some v)(hs:SAt ow' s' p x' v')(st:Step (mine p) ow s ow' s'):Sols B s' (setV V p v')∧Keep B s s':=by
  have hn:=st.next
  have hB:∀j,B j→¬ mine p (ow j):=fun j hj q=>by
    have q:(ow j).1=p:=q
    have:=(h2 j hj).2
    rw[q,hp]at this
    cases this
  refine⟨⟨ow',fun q w hq=>?_,fun j hj=>?_⟩,hn,fun j hj=>st.heap j (h2 j hj).1 (hB j hj)⟩
  · by_cases e : q = p
    · rw[e,setV_same]at hq
      injection hq with hq
      rw[← hq,e]
      exact⟨x',hs⟩
    · rw[setV_ne e]at hq
      obtain⟨x,hx⟩:=h1 q w hq
      exact⟨x,hx.keep st fun t ht e'=>by rw[show t.1=p from ht]at e';exact e e'.symm⟩
  · obtain⟨r1,r2⟩:=h2 j hj
    refine⟨by omega,?_⟩
    rw[st.tags j r1 (hB j hj)]
    have:(ow j).1≠p:=fun q=>hB j hj q
    rw[setV_ne this]
    exact r2
theorem sols_new{E:Env}(hE:Good E){B:Nat→Prop}{s:ASt}{V:Nat→Option Sv}(h:Sols B s V){n:Nat}(hn:n≤1000):
    WF E 40 [iv (n:Int)] (fun r s'=>∃v,r=ptrA s.next∧V s.next=none∧Sols B s' (setV V s.next v)∧Keep B s s'∧SI n 0 [] 0 v∧v.many=0) s:=by
  obtain⟨ow,h1,h2⟩:=h
  have hV:∀q,s.next≤q→V q=none:=fun q hq=>by
    cases hv:V q with
    | none=>rfl
    | some v =>
      obtain⟨x,hx⟩:=h1 _ v hv
      have:=hx.lt
      omega
  have st1:Step (fun t=>V t.1=none) ow s (fun j=>match V (ow j).1 with | none=>(s.next+1,0,0) | some _=>ow j) s:=⟨Nat.le_refl _,fun x hx hm=>by
    cases hv:V (ow x).1 with
    | none=>exact absurd hv hm
    | some v=>simp only[hv],fun _ _ _=>rfl⟩
  have h1':∀p v,V p=some v→∃x,SAt (fun j=>match V (ow j).1 with | none=>(s.next+1,0,0) | some _=>ow j) s p x v:=fun p v hp=>by
    obtain⟨x,hx⟩:=h1 p v hp
    exact⟨x,hx.keep st1 fun t ht e=>by rw[e,hp]at ht;cases ht⟩
  have h2':∀j,B j→j<s.next∧((fun j=>match V (ow j).1 with | none=>(s.next+1,0,0) | some _=>ow j:Ow) j)=(s.next+1,0,0):=fun j hj=>by
    obtain⟨r1,r2⟩:=h2 j hj
    exact⟨r1,by simp only[r2]⟩
  generalize (fun j=>match V (ow j).1 with | none=>(s.next+1,0,0) | some _=>ow j:Ow)=ow1 at *
  refine(new_use hE ow1 hn).mono ?_
  rintro _ s' ⟨v,ow',x',rfl,g1,g2,g3,g4⟩
  have hB:∀j,B j→¬ mine s.next (ow1 j):=fun j hj q=>by
    have q:(ow1 j).1=s.next:=q
    rw[(h2' j hj).2]at q
    exact absurd q (by show s.next+1≠s.next;omega)
  have hnx:=g4.next
  refine⟨v,rfl,hV _ (Nat.le_refl _),⟨ow',fun q w hq=>?_,fun j hj=>?_⟩,⟨hnx,fun j hj=>g4.heap j (h2' j hj).1 (hB j hj)⟩,g2,g3⟩
  · by_cases e : q = s.next
    · rw[e,setV_same]at hq
      injection hq with hq
      rw[← hq,e]
      exact⟨x',g1⟩
    · rw[setV_ne e]at hq
      obtain⟨x,hx⟩:=h1' q w hq
      exact⟨x,hx.keep g4 fun t ht e'=>by rw[show t.1=s.next from ht]at e';exact e e'.symm⟩
  · obtain⟨r1,r2⟩:=h2' j hj
    refine⟨by omega,?_⟩
    rw[g4.tags j r1 (hB j hj),r2,setV_ne (by show s.next+1≠s.next;omega)]
    exact hV _ (by omega)
def InB(B:Nat→Prop)(u:AV):Prop:=∀j,slot u=some j→B j
theorem sols_add{E:Env}(hE:Good E){B:Nat→Prop}{s:ASt}{V:Nat→Option Sv}(h:Sols B s V){p:Nat}{v:Sv}(hp:V p=some v){n A:Nat}{F:List (List Int)}{M:Nat}(hI:SI n A F M v)(hbd:Bd n A M){f:List Int}(hf:∀q∈f,VL n q)(hlen:f.length≤12){b:Nat}{u:AV}(hb:b≤s.next)(hu:SliceAt b s u (ivs f))(hus:InB B u):
    WF E 36 [ptrA p,u] (fun r s'=>r=iv 0∧∃v',SI n (A+1) (F++[f]) M v'∧v'.many=v.many∧Sols B s' (setV V p v')∧Keep B s s') s:=by
  obtain⟨ow,h1,h2⟩:=h
  obtain⟨x,hx⟩:=h1 p v hp
  refine(add_use hE hx hI hbd hf hlen hb hu fun j hj=>?_).mono ?_
  · obtain⟨r1,r2⟩:=h2 j (hus j hj)
    exact⟨fun q=>(by rw[q,hp]at r2;cases r2),r1⟩
  rintro _ s' ⟨rfl,v',ow',x',g1,g2,g3,g4⟩
  obtain⟨k1,k2⟩:=Sols.used h1 h2 hp g3 g4
  exact⟨rfl,v',g1,g2,k1,k2⟩
theorem sols_solve{E:Env}(hE:Good E){B:Nat→Prop}{s:ASt}{V:Nat→Option Sv}(h:Sols B s V){p:Nat}{v:Sv}(hp:V p=some v){n A:Nat}{F:List (List Int)}{M most:Nat}(hI:SI n A F M v)(hbd:Bd n A (M+most))(hmost:most≤100000)(hF:∀f∈F,∀y∈f,VL n y):
    WF E 34 [ptrA p,iv (most:Int)] (fun r s'=>∃ (c:Int) (v':Sv),r=iv c∧SI n A F (M+most) v'∧(v'.many≤((M+most:Nat):Int))∧(c=0∧(∀σ,¬ Models σ F)∨c=1∧v'.model.length=n+1∧Models (tells v'.model) F∨c=2∧(n≤6→most<729)∧[] ∉ F)∧Sols B s' (setV V p v')∧Keep B s s') s:=by
  obtain⟨ow,h1,h2⟩:=h
  obtain⟨x,hx⟩:=h1 p v hp
  refine(solve_use hE hx hI hbd hmost hF).mono ?_
  rintro _ s' ⟨c,v',ow',x',rfl,g1,g2,g3,g4,g5⟩
  obtain⟨k1,k2⟩:=Sols.used h1 h2 hp g4 g5
  exact⟨c,v',rfl,g1,g2,g3,k1,k2⟩
theorem sols_value{E:Env}(hE:Good E){B:Nat→Prop}{s:ASt}{V:Nat→Option Sv}(h:Sols B s V){p:Nat}{v:Sv}(hp:V p=some v){k:Nat}(h1:1≤k):
    WF E 41 [ptrA p,iv (k:Int)] (fun r s'=>r=.bool (tells v.model k)∧s=s') s:=by
  obtain⟨ow,g1,g2⟩:=h
  obtain⟨x,hx⟩:=g1 p v hp
  exact value_use hE hx h1
theorem sols_vars{E:Env}(hE:Good E){B:Nat→Prop}{s:ASt}{V:Nat→Option Sv}(h:Sols B s V){p:Nat}{v:Sv}(hp:V p=some v){n:Nat}(hn:n<100000000)(hv:v.value.length=n+1):WF E 47 [ptrA p] (fun r s'=>r=iv (n:Int)∧s=s') s:=by
  obtain⟨ow,g1,g2⟩:=h
  obtain⟨x,hx⟩:=g1 p v hp
  exact vars_ok hE hx hn hv
theorem sols_none(s:ASt):Sols (fun j=>j<s.next) s fun _=>none:=⟨fun _=>(0,0,0),fun p v hp=>(by cases hp),fun j hj=>⟨hj,rfl⟩⟩
def RowsIn(B:Nat→Prop)(s:ASt)(v:AV)(cs:List (List Int)):Prop:=∃us:List AV,SliceAt s.next s v us∧InB B v∧RowCells s.next s us cs∧∀u∈us,InB B u
theorem RowsIn.keep{B:Nat→Prop}{s s':ASt}{v:AV}{cs:List (List Int)}(h:RowsIn B s v cs)(k:Keep B s s'):RowsIn B s' v cs:=by
  obtain⟨us,h1,h2,h3,h4⟩:=h
  exact⟨us,(h1.keep fun j hj=>k.2 j (h2 j hj)).mono k.1,h2,(h3.keep fun u hu j hj=>k.2 j (h4 u hu j hj)).mono k.1,h4⟩
theorem RowsIn.more{B B':Nat→Prop}{s:ASt}{v:AV}{cs:List (List Int)}(h:RowsIn B s v cs)(k:∀j,B j→B' j):RowsIn B' s v cs:=by
  obtain⟨us,h1,h2,h3,h4⟩:=h
  exact⟨us,h1,fun j hj=>k j (h2 j hj),h3,fun u hu j hj=>k j (h4 u hu j hj)⟩
theorem RowsIn.len{B:Nat→Prop}{s:ASt}{v:AV}{cs:List (List Int)}(h:RowsIn B s v cs)(s':ASt):lenA Try.prog s' 22 v=some (iv (cs.length:Int)):=by
  obtain⟨us,h1,h2,h3,h4⟩:=h
  rw[← h3.1]
  exact h1.len Try.underlying22 s'
theorem RowsIn.row{B:Nat→Prop}{s:ASt}{v:AV}{cs:List (List Int)}(h:RowsIn B s v cs){k:Nat}{L:List Int}(hk:cs[k]? = some L):∃a u,indexAddrA Try.prog 22 v (iv (k:Int))=some a∧loadV Try.prog s 23 a=some u∧SliceAt s.next s u (ivs L)∧InB B u:=by
  obtain⟨us,h1,h2,h3,h4⟩:=h
  obtain⟨u,q1,q2⟩:=h3.2 k L hk
  obtain⟨a,cap,rfl,hc⟩:=h1
  obtain⟨i,o,rfl,hi,hl⟩:=hc k u q1
  refine⟨_,u,idx_slice Try.underlying22 sz23 (by have:=lt_of_get q1;exact this),load_one ag23 (by rw[Nat.mul_one];exact hl),q2,h4 u (List.mem_of_getElem? q1)⟩
theorem wrap_nat{m:Nat}(h:m<9223372036854775808):IntKind.i64.wrap (m:Int)=(m:Int):=by
  rw[← wrapA_eq]
  exact wrap_i64 ⟨by omega,by omega⟩
theorem shr_nat{a n:Nat}(hn:n≤60):binA Try.prog .shr 3 (iv (a:Int)) (iv (n:Int))=some (iv ((a / 2 ^ n:Nat):Int)):=by
  show(runP Try.prog (Op.shift .shr .i64 (a:Int) .i64 (n:Int))).bind ofValue=_
  unfold Op.shift
  rw[if_neg (by omega)]
  have e:min (n:Int).toNat IntKind.i64.bits=n:=by
    have:IntKind.i64.bits=64:=rfl
    rw[this];omega
  dsimp only
  rw[e]
  have e2:Int.fdiv (a:Int) (2 ^ n)=((a / 2 ^ n:Nat):Int):=by
    have:((2:Int) ^ n)=((2 ^ n:Nat):Int):=by simp
    rw[this,Int.fdiv_eq_ediv_of_nonneg _ (Int.natCast_nonneg _)]
    rfl
  rw[e2]
  rfl
theorem shl_nat{n:Nat}(hn:n≤60):binA Try.prog .shl 3 (iv 1) (iv (n:Int))=some (iv ((2 ^ n:Nat):Int)):=by
  show(runP Try.prog (Op.shift .shl .i64 1 .i64 (n:Int))).bind ofValue=_
  unfold Op.shift
  rw[if_neg (by omega)]
  have e:min (n:Int).toNat IntKind.i64.bits=n:=by
    have:IntKind.i64.bits=64:=rfl
    rw[this];omega
  dsimp only
  rw[e]
  have e2:(1:Int) * 2 ^ n=((2 ^ n:Nat):Int):=by simp
  have hlt:2 ^ n<9223372036854775808:=by
    have:2 ^ n≤2 ^ 60:=Nat.pow_le_pow_right (by decide) hn
    have:(2:Nat) ^ 60=1152921504606846976:=rfl
    omega
  rw[e2,wrap_nat hlt]
  rfl
theorem ofInt_toNat{a:Nat}(h:a<9223372036854775808):(BitVec.ofInt IntKind.i64.bits (a:Int)).toNat=a:=by
  have:IntKind.i64.bits=64:=rfl
  rw[BitVec.ofInt_natCast,BitVec.toNat_ofNat,this]
  exact Nat.mod_eq_of_lt (by omega)
theorem and_nat{a b:Nat}(ha:a<9223372036854775808)(hb:b<9223372036854775808):binA Try.prog .and 3 (iv (a:Int)) (iv (b:Int))=some (iv ((a &&& b:Nat):Int)):=by
  show guardB (sameKind .i64 .i64) ((runP Try.prog (Op.intBits .and .i64 (a:Int) (b:Int))).bind ofValue)=_
  have hk:sameKind .i64 .i64=true:=rfl
  rw[hk]
  unfold Op.intBits
  dsimp only
  rw[BitVec.toNat_and,ofInt_toNat ha,ofInt_toNat hb,wrap_nat (Nat.lt_of_le_of_lt Nat.and_le_left ha)]
  rfl
theorem or_nat{a b:Nat}(ha:a<1152921504606846976)(hb:b<1152921504606846976):binA Try.prog .or 3 (iv (a:Int)) (iv (b:Int))=some (iv ((a ||| b:Nat):Int)):=by
  show guardB (sameKind .i64 .i64) ((runP Try.prog (Op.intBits .or .i64 (a:Int) (b:Int))).bind ofValue)=_
  have hk:sameKind .i64 .i64=true:=rfl
  rw[hk]
  unfold Op.intBits
  dsimp only
  have hlt:a ||| b<2 ^ 60:=Nat.or_lt_two_pow ha hb
  have:(2:Nat) ^ 60=1152921504606846976:=rfl
  rw[BitVec.toNat_or,ofInt_toNat (by omega),ofInt_toNat (by omega),wrap_nat (by omega)]
  rfl
theorem and_one(a:Nat):a &&& 1=a % 2:=Nat.and_one_is_mod a
def litN(b:Nat)(x:Int):Bool:=if 0<x then b.testBit (x - 1).toNat else !b.testBit (-x - 1).toNat
def holdsN(b:Nat)(c:List Int):Bool:=c.any (litN b)
theorem testBit_div(b n:Nat):b.testBit n=decide (b / 2 ^ n % 2=1):=Nat.testBit_eq_decide_div_mod_eq
theorem litN_ok{E:Env}(hE:Good E){s:ASt}{b n:Nat}(hb:b<1152921504606846976)(hn:n≤50){x:Int}(hx:VL n x):WF E 79 [iv (b:Int),iv x] (fun r s'=>r=.bool (litN b x)∧s=s') s:=by
  obtain⟨h0,h1⟩:=hx
  refine hE.go comp79 (by decide) rfl ?_
  have hk:∀k:Nat,k≤60→∃m:Nat,b / 2 ^ k=m∧m<9223372036854775808:=fun k _=>⟨_,rfl,Nat.lt_of_le_of_lt (Nat.div_le_self _ _) (by omega)⟩
  by_cases hp:0<x
  · have e0 : decide ((0 : Int) < x) = true := decide_eq_true hp
    have e1:=bin_sub Try.prog 3 x 1 ⟨by omega,by omega⟩
    have hc:x - 1=(((x - 1).toNat:Nat):Int):=by omega
    have hl:litN b x=decide (b / 2 ^ (x - 1).toNat % 2=1):=by unfold litN;rw[if_pos hp,testBit_div]
    generalize hq:(x - 1).toNat=q at *
    have e2:=shr_nat (a:=b) (n:=q) (by omega)
    obtain⟨m,hm,hm2⟩:=hk q (by omega)
    have e3:binA Try.prog .and 3 (iv ((m:Nat):Int)) (iv 1)=some (iv ((m % 2:Nat):Int)):=by rw[← and_one];exact and_nat hm2 (by decide)
    rw[hm]at e2 hl
    have hd:decide (((m % 2:Nat):Int)=1)=decide (m % 2=1):=decide_eq_decide.2 (by omega)
    rw[hc]at e1
    simp only[c79,c79o0,c79o1,e0,c79o2,e1,e2,e3,hd,Qa,Qb,Qc,Qd,Qe,Qf,Qg,Qh,Qi,Qj,Qk,Ql,Qm,Qn,true_and,and_true,Qo,Qp,Qq,Qr,Qs,Qt,Qu,Qv,Qw,Qx,Qy,Qz,Ra,Rb,Rc,Rd,Re,Rf,Rg,Rh,Ri,Rj,Rk,Rl,Rm,Ya,Yb,Yc,Rn,Ro,Rp,Yd,Ye,Rq,Rs,Rt,Ru,Rv,Rw,Rx]
    rw[hl]
  · have e0 : decide ((0 : Int) < x) = false := decide_eq_false hp
    have eN:=un_neg Try.prog x ⟨by omega,by omega⟩
    have e1:=bin_sub Try.prog 3 (-x) 1 ⟨by omega,by omega⟩
    have hc:-x - 1=(((-x - 1).toNat:Nat):Int):=by omega
    have hl:litN b x=!decide (b / 2 ^ (-x - 1).toNat % 2=1):=by unfold litN;rw[if_neg hp,testBit_div]
    generalize hq:(-x - 1).toNat=q at *
    have e2:=shr_nat (a:=b) (n:=q) (by omega)
    obtain⟨m,hm,hm2⟩:=hk q (by omega)
    have e3:binA Try.prog .and 3 (iv ((m:Nat):Int)) (iv 1)=some (iv ((m % 2:Nat):Int)):=by rw[← and_one];exact and_nat hm2 (by decide)
    rw[hm]at e2 hl
    have hd:decide (((m % 2:Nat):Int)=0)=!decide (m % 2=1):=by
      rw[← decide_not]
      exact decide_eq_decide.2 (by omega)
    rw[hc]at e1
    simp only[c79,c79o0,c79o1,e0,c79o3,eN,e1,e2,e3,hd,Qa,Qb,Qc,Qd,Qe,Qf,Qg,Qh,Qi,Qj,Qk,Ql,Qm,Qn,true_and,and_true,Qo,Qp,Qq,Qr,Qs,Qt,Qu,Qv,Qw,Qx,Qy,Qz,Ra,Rb,Rc,Rd,Re,Rf,Rg,Rh,Ri,Rj,Rk,Rl,Rm,Ya,Yb,Yc,Rn,Ro,Rp,Yd,Ye,Rq,Rs,Rt,Ru,Rv,Rw,Rx]
    rw[hl]
theorem holdsN_loop{E:Env}(hE:Good E){s:ASt}{b c n:Nat}(hb:b<1152921504606846976)(hn:n≤50){L:List Int}(hL:∀x∈L,VL n x)(hlen:L.length≤1000000){a:Option (Nat×Nat)}{cap:Option Nat}(hc:CellsAt c s a (ivs L)){Q:ARes→Prop}:
    ∀ (l : List Int) (k : Nat) (x2 x4 x5 : AV), L.drop k = l → k ≤ L.length →
      (∀ (e:AExit) (y2 y3 y4 y5:AV),(e=.ret∧holdsN b l=true∧y2=.bool true∨e=.exit 0∧holdsN b l=false)→Q ⟨e,[iv (b:Int),.slice a L.length cap,y2,y3,y4,y5],[],s⟩) →
      WC E none (.loop c39l6) Q [iv (b:Int),.slice a L.length cap,x2,iv (k:Int),x4,x5] [] s:=by
  intro l
  induction l with
  | nil =>
    intro k x2 x4 x5 hd hk hq
    have:=drop_end hd hk
    subst this
    refine WC.loop' ?_
    simp only[c39l6,c39o2,len_slice Try.underlying23,Int.lt_irrefl,decide_false,Qa,Qb,Qc,Qd,Qe,Qf,Qg,Qh,Qi,Qj,Qk,Ql,Qm,Qn,true_and,and_true,Qo,Qp,Qq,Qr,Qs,Qt,Qu,Qv,Qw,Qx,Qy,Qz,Ra,Rb,Rc,Rd,Re,Rf,Rg,Rh,Ri,Rj,Rk,Rl,Rm,Ya,Yb,Yc,Rn,Ro,Rp,Yd,Ye,Rq,Rs,Rt,Ru,Rv,Rw,Rx]
    exact hq _ _ _ _ _ (.inr ⟨rfl,rfl⟩)
  | cons x l ih =>
    intro k x2 x4 x5 hd hk hq
    obtain⟨hlt,hx,hd'⟩:=drop_facts hd
    obtain⟨i,o,rfl,hi,hload⟩:=hc k _ (get_ivs hx)
    have e1:=idx_slice (cap:=cap) (i:=i) (o:=o) Try.underlying23 sz3 hlt
    have e2:loadV Try.prog s 3 (.ptr (some (i,o+k * 1)))=some (iv x):=load_one ag3 (by rw[Nat.mul_one];exact hload)
    have hkk:decide ((k:Int)<(L.length:Int))=true:=decide_eq_true (by omega)
    have e3:=bin_add Try.prog 3 (k:Int) 1 ⟨by omega,by omega⟩
    have hcast:((k:Int)+1)=((k+1:Nat):Int):=by omega
    refine WC.loop' ?_
    generalize hW:WC E none (CCode.loop c39l6) Q=W
    simp only[c39l6,c39o2,c39o3,len_slice Try.underlying23,hkk,e1,e2,Qa,Qb,Qc,Qd,Qe,Qf,Qg,Qh,Qi,Qj,Qk,Ql,Qm,Qn,true_and,and_true,Qo,Qp,Qq,Qr,Qs,Qt,Qu,Qv,Qw,Qx,Qy,Qz,Ra,Rb,Rc,Rd,Re,Rf,Rg,Rh,Ri,Rj,Rk,Rl,Rm,Ya,Yb,Yc,Rn,Ro,Rp,Yd,Ye,Rq,Rs,Rt,Ru,Rv,Rw,Rx]
    refine(litN_ok hE hb hn (hL x (List.mem_of_getElem? hx))).mono ?_
    rintro _ _ ⟨rfl,rfl⟩
    cases hl:litN b x with
    | true =>
      have hh:holdsN b (x::l)=true:=by simp[holdsN,hl]
      simp only[c39o4,Qa,Qb,Qc,Qd,Qe,Qf,Qg,Qh,Qi,Qj,Qk,Ql,Qm,Qn,true_and,and_true,Qo,Qp,Qq,Qr,Qs,Qt,Qu,Qv,Qw,Qx,Qy,Qz,Ra,Rb,Rc,Rd,Re,Rf,Rg,Rh,Ri,Rj,Rk,Rl,Rm,Ya,Yb,Yc,Rn,Ro,Rp,Yd,Ye,Rq,Rs,Rt,Ru,Rv,Rw,Rx]
      exact hq _ _ _ _ _ (.inl ⟨rfl,hh,rfl⟩)
    | false =>
      have hh:holdsN b (x::l)=holdsN b l:=by simp[holdsN,hl]
      rw[hh]at hq
      simp only[c39o5,e3,hcast,Qa,Qb,Qc,Qd,Qe,Qf,Qg,Qh,Qi,Qj,Qk,Ql,Qm,Qn,true_and,and_true,Qo,Qp,Qq,Qr,Qs,Qt,Qu,Qv,Qw,Qx,Qy,Qz,Ra,Rb,Rc,Rd,Re,Rf,Rg,Rh,Ri,Rj,Rk,Rl,Rm,Ya,Yb,Yc,Rn,Ro,Rp,Yd,Ye,Rq,Rs,Rt,Ru,Rv,Rw,Rx]
      rw[← hW]
      exact ih (k+1) _ _ _ hd' hlt hq
theorem holdsN_ok{E:Env}(hE:Good E){s:ASt}{b c n:Nat}(hb:b<1152921504606846976)(hn:n≤50){L:List Int}(hL:∀x∈L,VL n x)(hlen:L.length≤1000000){u:AV}(hu:SliceAt c s u (ivs L)):
    WF E 39 [iv (b:Int),u] (fun r s'=>r=.bool (holdsN b L)∧s=s') s:=by
  obtain⟨a,cap,rfl,hc⟩:=hu
  rw[ivs_len]
  refine hE.go comp39 (by decide) rfl ?_
  simp only[c39,c39o0,c39o1,Qa,Qb,Qc,Qd,Qe,Qf,Qg,Qh,Qi,Qj,Qk,Ql,Qm,Qn,true_and,and_true,Qo,Qp,Qq,Qr,Qs,Qt,Qu,Qv,Qw,Qx,Qy,Qz,Ra,Rb,Rc,Rd,Re,Rf,Rg,Rh,Ri,Rj,Rk,Rl,Rm,Ya,Yb,Yc,Rn,Ro,Rp,Yd,Ye,Rq,Rs,Rt,Ru,Rv,Rw,Rx]
  refine holdsN_loop hE hb hn hL hlen hc L 0 _ _ _ rfl (Nat.zero_le _) ?_
  rintro e y2 y3 y4 y5 (⟨rfl,h,rfl⟩ | ⟨rfl,h⟩)
  · simp only[h,Qa,Qb,Qc,Qd,Qe,Qf,Qg,Qh,Qi,Qj,Qk,Ql,Qm,Qn,true_and,and_true,Qo,Qp,Qq,Qr,Qs,Qt,Qu,Qv,Qw,Qx,Qy,Qz,Ra,Rb,Rc,Rd,Re,Rf,Rg,Rh,Ri,Rj,Rk,Rl,Rm,Ya,Yb,Yc,Rn,Ro,Rp,Yd,Ye,Rq,Rs,Rt,Ru,Rv,Rw,Rx]
  · simp only[h,if_true,c39o7,Qa,Qb,Qc,Qd,Qe,Qf,Qg,Qh,Qi,Qj,Qk,Ql,Qm,Qn,true_and,and_true,Qo,Qp,Qq,Qr,Qs,Qt,Qu,Qv,Qw,Qx,Qy,Qz,Ra,Rb,Rc,Rd,Re,Rf,Rg,Rh,Ri,Rj,Rk,Rl,Rm,Ya,Yb,Yc,Rn,Ro,Rp,Yd,Ye,Rq,Rs,Rt,Ru,Rv,Rw,Rx]
abbrev u8v(n:Int):AV:=.int .u8 n
abbrev u8vs(l:List Int):List AV:=l.map u8v
def U8s(l:List Int):Prop:=∀x∈l,u8 x
theorem bin_eql8(a b:Int):binA Try.prog .eql 5 (u8v a) (u8v b)=some (.bool (decide (a=b))):=by
  show some (AV.bool (eqI a b))=_
  rw[eqI_eq];rfl
theorem bin_quo8{a:Int}(h:u8 a):binA Try.prog .quo 5 (u8v a) (u8v 2)=some (u8v (a / 2)):=by
  obtain⟨h1,h2⟩:=h
  have e:IntKind.u8.wrap (a.tdiv 2)=a / 2:=by
    rw[← wrapA_eq,Int.tdiv_eq_ediv_of_nonneg h1]
    exact wrapA_of (in_u8 ⟨by omega,by omega⟩)
  show guardB (sameKind .u8 .u8) ((runP Try.prog (Op.intDiv .quo .u8 a 2)).bind ofValue)=_
  have hk:sameKind .u8 .u8=true:=rfl
  rw[hk]
  unfold Op.intDiv
  rw[if_neg (by decide)]
  dsimp only
  rw[e]
  rfl
theorem get_u8vs{l:List Int}{k:Nat}{x:Int}(h:l[k]? = some x):(u8vs l)[k]? = some (u8v x):=by rw[List.getElem?_map,h];rfl
theorem draw_loop {E : Env} (hE : Good E) {n1 n most size : Nat} {s1 : ASt} (hn1 : n1 ≤ s1.next) (hn0 : 1 ≤ n) (hn : n ≤ 1000) (hsize : size ≤ 4) {bs : List Int} (hbs : U8s bs) (hlen : bs.length < 9223372036854775808) {a : Option (Nat × Nat)} {cap : Option Nat} (hc : CellsAt n1 s1 a (u8vs bs)) (v3 v4 v10 v11 v14 : AV) {Q : ARes → Prop} :
    ∀ (m k i : Nat) (out : List Int) (O : List Nat) (v7 : AV) (s : ASt) (x9 x12 x13 : AV), m = size - k → k ≤ size → i ≤ bs.length → out.length = k → (∀ x ∈ out, VL n x) → Dest s v7 out.length 1 (ivs out) O → ((∀ j ∈ O, n1 ≤ j) ∧ ∀ j, slot v7 = some j → n1 ≤ j) → Old n1 s1 s →
      (∀s' v' out' O' i' y8 y9 y12 y13,i≤i'→i'≤bs.length→(∀x∈out',VL n x)→out'.length≤4→Dest s' v' out'.length 1 (ivs out') O'→((∀j∈O',n1≤j)∧∀j,slot v'=some j→n1≤j)→Old n1 s1 s'→Q ⟨.exit 2,[iv (n:Int),.slice a bs.length cap,iv (most:Int),v3,v4,iv ((i':Nat):Int),iv (size:Int),v',y8,y9,v10,v11,y12,y13,v14],[],s'⟩) →
      WC E none (.loop c31l17) Q [iv (n:Int),.slice a bs.length cap,iv (most:Int),v3,v4,iv (i:Int),iv (size:Int),v7,iv (k:Int),x9,v10,v11,x12,x13,v14] [] s:=by
  intro m
  induction m with
  | zero =>
    intro k i out O v7 s x9 x12 x13 hm hk hi ho hv hd hO hold hq
    have hke:k=size:=by omega
    subst hke
    refine WC.loop' ?_
    simp only[c31l17,c31o10,Int.lt_irrefl,decide_false,Qa,Qb,Qc,Qd,Qe,Qf,Qg,Qh,Qi,Qj,Qk,Ql,Qm,Qn,true_and,and_true,Qo,Qp,Qq,Qr,Qs,Qt,Qu,Qv,Qw,Qx,Qy,Qz,Ra,Rb,Rc,Rd,Re,Rf,Rg,Rh,Ri,Rj,Rk,Rl,Rm,Ya,Yb,Yc,Rn,Ro,Rp,Yd,Ye,Rq,Rs,Rt,Ru,Rv,Rw,Rx]
    exact hq s v7 out O i _ _ _ _ (Nat.le_refl _) hi hv (by omega) hd hO hold
  | succ m ih =>
    intro k i out O v7 s x9 x12 x13 hm hk hi ho hv hd hO hold hq
    have hks:decide ((k:Int)<(size:Int))=true:=decide_eq_true (by omega)
    refine WC.loop' ?_
    by_cases hlt:i<bs.length
    · have hx : bs[i]? = some bs[i] := List.getElem?_eq_getElem hlt
      have hxi:=hbs bs[i] (List.getElem_mem _)
      obtain⟨hx1,hx2⟩:=hxi
      obtain⟨p,o,rfl,hp,hload⟩:=hc i _ (get_u8vs hx)
      have e1:=idx_slice (cap:=cap) (i:=p) (o:=o) Try.underlying42 sz5 hlt
      have ld:loadV Try.prog s 5 (.ptr (some (p,o+i * 1)))=some (u8v bs[i]):=load_one ag5 (by rw[Nat.mul_one,load1_eq (hold.2 p hp)];exact hload)
      have hkk:decide ((i:Int)<(bs.length:Int))=true:=decide_eq_true (by omega)
      have e3:=bin_add Try.prog 3 (i:Int) 1 ⟨by omega,by omega⟩
      have e3':((i:Int)+1)=((i+1:Nat):Int):=by omega
      have e4:=bin_add Try.prog 3 (k:Int) 1 ⟨by omega,by omega⟩
      have e4':((k:Int)+1)=((k+1:Nat):Int):=by omega
      have q1:=bin_quo8 (a:=bs[i]) ⟨hx1,hx2⟩
      have q2:convA Try.prog s 5 3 (u8v (bs[i] / 2))=some (iv (bs[i] / 2)):=conv_u8 ⟨by omega,by omega⟩
      have q3:=bin_rem (P:=Try.prog) (t:=3) (k:=.i64) (a:=bs[i] / 2) (b:=(n:Int)) (by omega) (by omega)
      have r1:=Int.emod_nonneg (bs[i] / 2) (show(n:Int)≠0 by omega)
      have r2:=Int.emod_lt_of_pos (bs[i] / 2) (show(0:Int)<(n:Int) by omega)
      have q4:=bin_add Try.prog 3 1 (bs[i] / 2 % (n:Int)) ⟨by omega,by omega⟩
      have q5:=bin_rem (P:=Try.prog) (t:=5) (k:=.u8) (a:=bs[i]) (b:=2) hx1 (by decide)
      generalize hw:1+bs[i] / 2 % (n:Int)=w at *
      have q6:=un_neg Try.prog w ⟨by omega,by omega⟩
      have b1:∀y:Int,sliceRowA Try.prog 23 1 (zipIdx [0] [iv y])=some (mkRow 3 1 [iv y]):=fun y=>bld_one Try.underlying23 sz3 zr3 rfl rfl
      have hmv:∀ (m:Nat) (i:Nat),Made.val i (.slice m)=.slice (some (i,0)) m (some m):=fun _ _=>rfl
      have go:∀ (y:Int) (w9 w12 w13:AV),VL n y→∃v' s',appendA Try.prog (newObj s (mkRow 3 1 [iv y])) [23,23] [v7,.slice (some (s.next,0)) 1 (some 1)]=some (v',s')∧WC E none (.loop c31l17) Q [iv (n:Int),.slice (some (p,o)) bs.length cap,iv (most:Int),v3,v4,iv ((i+1:Nat):Int),iv (size:Int),v',iv ((k+1:Nat):Int),w9,v10,v11,w12,w13,v14] [] s':=by
        intro y w9 w12 w13 hy
        obtain⟨v',s',O',p1,p2,p3,p4,p5,p6⟩:=push_int' hd (by omega) y
        refine⟨v',s',p1,ih (k+1) (i+1) (out++[y]) O' v' s' _ _ _ (by omega) (by omega) hlt (by simp;omega) (fun x hx=>?_) p2 ⟨fun j hj=>(p5 j hj).elim (hO.1 j) (fun h=>by have:=hold.1;omega),fun j hj=>(p6 j hj).elim (hO.2 j) (fun h=>by have:=hold.1;omega)⟩ (hold.trans ⟨p3,fun j hj=>p4 j (by have:=hold.1;omega) (fun hm=>by have:=hO.1 j hm;omega)⟩) fun s' v' out' O' i' y8 y9 y12 y13 g1=>hq s' v' out' O' i' y8 y9 y12 y13 (by omega)⟩
        rcases List.mem_append.1 hx with h | h
        · exact hv x h
        · rw[List.mem_singleton.1 h];exact hy
      generalize hW:WC E none (CCode.loop c31l17) Q=W at go
      by_cases hodd:bs[i] % 2=1
      · obtain⟨v',s',p1,p2⟩:=go (-w) (iv (-w)) (.bool true) (.bool true) ⟨by omega,by omega⟩
        simp only[c31l17,c31o10,hks,len_slice Try.underlying42,hkk,c31o11,e1,ld,q1,q2,q3,q4,hw,c31o12,q5,bin_eql8,hodd,decide_true,c31o13,q6,c31o14,b1,hmv,p1,c31o15,e3,e3',c31o16,e4,e4',Qa,Qb,Qc,Qd,Qe,Qf,Qg,Qh,Qi,Qj,Qk,Ql,Qm,Qn,true_and,and_true,Qo,Qp,Qq,Qr,Qs,Qt,Qu,Qv,Qw,Qx,Qy,Qz,Ra,Rb,Rc,Rd,Re,Rf,Rg,Rh,Ri,Rj,Rk,Rl,Rm,Ya,Yb,Yc,Rn,Ro,Rp,Yd,Ye,Rq,Rs,Rt,Ru,Rv,Rw,Rx]
        exact p2
      · obtain⟨v',s',p1,p2⟩:=go w (iv w) (.bool true) (.bool false) ⟨by omega,by omega⟩
        simp only[c31l17,c31o10,hks,len_slice Try.underlying42,hkk,c31o11,e1,ld,q1,q2,q3,q4,hw,c31o12,q5,bin_eql8,hodd,decide_false,c31o14,b1,hmv,p1,c31o15,e3,e3',c31o16,e4,e4',Qa,Qb,Qc,Qd,Qe,Qf,Qg,Qh,Qi,Qj,Qk,Ql,Qm,Qn,true_and,and_true,Qo,Qp,Qq,Qr,Qs,Qt,Qu,Qv,Qw,Qx,Qy,Qz,Ra,Rb,Rc,Rd,Re,Rf,Rg,Rh,Ri,Rj,Rk,Rl,Rm,Ya,Yb,Yc,Rn,Ro,Rp,Yd,Ye,Rq,Rs,Rt,Ru,Rv,Rw,Rx]
        exact p2
    · have hkk:decide ((i:Int)<(bs.length:Int))=false:=decide_eq_false (by omega)
      simp only[c31l17,c31o10,hks,len_slice Try.underlying42,hkk,Qa,Qb,Qc,Qd,Qe,Qf,Qg,Qh,Qi,Qj,Qk,Ql,Qm,Qn,true_and,and_true,Qo,Qp,Qq,Qr,Qs,Qt,Qu,Qv,Qw,Qx,Qy,Qz,Ra,Rb,Rc,Rd,Re,Rf,Rg,Rh,Ri,Rj,Rk,Rl,Rm,Ya,Yb,Yc,Rn,Ro,Rp,Yd,Ye,Rq,Rs,Rt,Ru,Rv,Rw,Rx]
      exact hq s v7 out O i _ _ _ _ (Nat.le_refl _) hi hv (by omega) hd hO hold
def Drawn(n:Nat)(cs:List (List Int)):Prop:=∀L∈cs,(∀x∈L,VL n x)∧L.length≤4
theorem drawn_loop {E : Env} (hE : Good E) {s0 : ASt} {b n most : Nat} (hb : b ≤ s0.next) (hn0 : 1 ≤ n) (hn : n ≤ 1000) (hmost : most ≤ 1000) {bs : List Int} (hbs : U8s bs) (hlen : bs.length < 9223372036854775808) {a : Option (Nat × Nat)} {cap : Option Nat} (hc : CellsAt b s0 a (u8vs bs)) (v3 : AV) {Q : ARes → Prop}
    (hq:∀s' v' us' cs' O' y5 y6 y7 y8 y9 y10 y11 y12 y13 y14,Made20 s0.next s' v' us' cs' O'→Drawn n cs'→cs'.length≤most→Old s0.next s0 s'→Q ⟨.exit 0,[iv (n:Int),.slice a bs.length cap,iv (most:Int),v3,v',y5,y6,y7,y8,y9,y10,y11,y12,y13,y14],[],s'⟩):
    ∀ (m i:Nat) (us:List AV) (cs:List (List Int)) (O:List Nat) (v4:AV) (s:ASt) (x6 x7 x8 x9 x10 x11 x12 x13 x14:AV),bs.length - i≤m→i≤bs.length→Made20 s0.next s v4 us cs O→Drawn n cs→cs.length≤most→Old s0.next s0 s →
      WC E none (.loop c31l20) Q [iv (n:Int),.slice a bs.length cap,iv (most:Int),v3,v4,iv (i:Int),x6,x7,x8,x9,x10,x11,x12,x13,x14] [] s:=by
  intro m
  induction m with
  | zero =>
    intro i us cs O v4 s x6 x7 x8 x9 x10 x11 x12 x13 x14 hm hi hmd hdr hle hold
    have hkk:decide ((i:Int)<(bs.length:Int))=false:=decide_eq_false (by omega)
    refine WC.loop' ?_
    simp only[c31l20,c31o3,len_slice Try.underlying42,hkk,Qa,Qb,Qc,Qd,Qe,Qf,Qg,Qh,Qi,Qj,Qk,Ql,Qm,Qn,true_and,and_true,Qo,Qp,Qq,Qr,Qs,Qt,Qu,Qv,Qw,Qx,Qy,Qz,Ra,Rb,Rc,Rd,Re,Rf,Rg,Rh,Ri,Rj,Rk,Rl,Rm,Ya,Yb,Yc,Rn,Ro,Rp,Yd,Ye,Rq,Rs,Rt,Ru,Rv,Rw,Rx]
    exact hq s v4 us cs O _ _ _ _ _ _ _ _ _ _ hmd hdr hle hold
  | succ m ih =>
    intro i us cs O v4 s x6 x7 x8 x9 x10 x11 x12 x13 x14 hm hi hmd hdr hle hold
    have husl:=hmd.rows.1
    have l4:∀s',lenA Try.prog s' 22 v4=some (iv (cs.length:Int)):=fun s'=>by
      obtain⟨a',cap',rfl,_⟩:=hmd.dest.cells
      rw[← husl]
      exact len_slice Try.underlying22
    refine WC.loop' ?_
    by_cases hlt:i<bs.length
    · have hkk:decide ((i:Int)<(bs.length:Int))=true:=decide_eq_true (by omega)
      by_cases hmo:cs.length<most
      · have hmm : decide ((cs.length : Int) < (most : Int)) = true := decide_eq_true (by omega)
        have hx:bs[i]? = some bs[i]:=List.getElem?_eq_getElem hlt
        obtain⟨hx1,hx2⟩:=hbs bs[i] (List.getElem_mem _)
        obtain⟨p,o,rfl,hp,hload⟩:=hc i _ (get_u8vs hx)
        have e1:=idx_slice (cap:=cap) (i:=p) (o:=o) Try.underlying42 sz5 hlt
        have ld:loadV Try.prog s 5 (.ptr (some (p,o+i * 1)))=some (u8v bs[i]):=load_one ag5 (by rw[Nat.mul_one,load1_eq (hold.2 p (by omega))];exact hload)
        have e3:=bin_add Try.prog 3 (i:Int) 1 ⟨by omega,by omega⟩
        have e3':((i:Int)+1)=((i+1:Nat):Int):=by omega
        have q5:=bin_rem (P:=Try.prog) (t:=5) (k:=.u8) (a:=bs[i]) (b:=4) hx1 (by decide)
        have q6:convA Try.prog s 5 3 (u8v (bs[i] % 4))=some (iv (bs[i] % 4)):=conv_u8 ⟨by omega,by omega⟩
        have q7:=bin_add Try.prog 3 1 (bs[i] % 4) ⟨by omega,by omega⟩
        have q8:=bin_rem (P:=Try.prog) (t:=5) (k:=.u8) (a:=bs[i]) (b:=29) hx1 (by decide)
        have hsz:(1:Int)+bs[i] % 4=(((1+bs[i] % 4).toNat:Nat):Int):=by omega
        have hsz4:(1+bs[i] % 4).toNat≤4:=by omega
        generalize (1+bs[i] % 4).toNat=sz at hsz hsz4
        have hns:=hold.1
        have hcu:CellsAt s.next s (some (p,o)) (u8vs bs):=(hc.old hold hb).mono (Nat.le_trans hb hns)
        have hmv:∀ (m:Nat) (i:Nat),Made.val i (.slice m)=.slice (some (i,0)) m (some m):=fun _ _=>rfl
        have rest:∀ (size:Nat) (y11:AV),size≤4→WC E none (.loop c31l17) (InBlock 2 (seqK (Qa E none (.seq (.ops c31o18) (.cond (.var 14) (.ops c31o19) .skip)) (InBlock 1 (seqK (WC E none (.loop c31l20) Q) Q))) (InBlock 1 (seqK (WC E none (.loop c31l20) Q) Q)))) [iv (n:Int),.slice (some (p,o)) bs.length cap,iv (most:Int),v3,v4,iv ((i+1:Nat):Int),iv (size:Int),.slice none 0 (some 0),iv 0,x9,.bool true,y11,x12,x13,x14] [] s:=by
          intro size y11 hsize
          refine draw_loop hE (n1:=s.next) (Nat.le_refl _) hn0 hn hsize hbs hlen hcu _ _ _ _ _ size 0 (i+1) [] [] _ s _ _ _ rfl (Nat.zero_le _) hlt rfl (by simp) (Dest.nil s 1) ⟨(fun j hj=>by cases hj),(fun j hj=>by cases hj)⟩ (Old.refl _ _) ?_
          intro s1 v5 out O5 i' y8 y9 y12 y13 hi1 hi2 hV hol hd5 hO5 hold1
          have l5:∀s',lenA Try.prog s' 23 v5=some (iv (out.length:Int)):=fun s'=>by
            obtain⟨a',cap',rfl,_⟩:=hd5.cells
            exact len_slice Try.underlying23
          have noapp:∀ (y14:AV),WC E none (.loop c31l20) Q [iv (n:Int),.slice (some (p,o)) bs.length cap,iv (most:Int),v3,v4,iv (i':Int),iv (size:Int),v5,y8,y9,.bool true,y11,y12,y13,y14] [] s1:=fun y14=>by
            have hmd1:Made20 s0.next s1 v4 us cs O:=⟨hmd.dest.frame hold1.1 fun j hj=>hold1.2 j (hmd.dest.slot_lt j hj),(hmd.rows.keep fun u hu j hj=>hold1.2 j (hmd.slots u hu j hj).2.1).mono hold1.1,fun u hu j hj=>by obtain⟨g1,g2,g3⟩:=hmd.slots u hu j hj;exact⟨g1,by have:=hold1.1;omega,g3⟩,hmd.own⟩
            exact ih i' us cs O v4 s1 _ _ _ _ _ _ _ _ _ (by omega) hi2 hmd1 hdr hle (hold.trans (hold1.mono hns))
          have app:∀ (y14:AV),Qb E c31o19 (fun V s'=>WC E none (.loop c31l20) Q V [] s') [] [iv (n:Int),.slice (some (p,o)) bs.length cap,iv (most:Int),v3,v4,iv (i':Int),iv (size:Int),v5,y8,y9,.bool true,y11,y12,y13,y14] s1:=by
            intro y14
            have hv5:v5.cells=[v5]:=by obtain⟨a',c',rfl,_⟩:=hd5.cells;rfl
            have b1:=bld_one (P:=Try.prog) (t:=22) (v:=v5) Try.underlying22 sz23 zr23 rfl hv5
            have hslot:=hmd.dest.slot_lt
            have hd3:Dest s1 v4 us.length 1 us O:=hmd.dest.frame hold1.1 fun j hj=>hold1.2 j (hslot j hj)
            obtain⟨v',s2,O',p1,p2,p3,p4,p5⟩:=push_cell (st:=22) (e:=23) (by_:=24) Try.underlying22 sz23 by23 (by decide) (strx 22 23 Try.underlying22) zero23 hd3 (by omega) hd5.isSlice
            simp only[c31o19,b1,hmv,p1,Qa,Qb,Qc,Qd,Qe,Qf,Qg,Qh,Qi,Qj,Qk,Ql,Qm,Qn,true_and,and_true,Qo,Qp,Qq,Qr,Qs,Qt,Qu,Qv,Qw,Qx,Qy,Qz,Ra,Rb,Rc,Rd,Re,Rf,Rg,Rh,Ri,Rj,Rk,Rl,Rm,Ya,Yb,Yc,Rn,Ro,Rp,Yd,Ye,Rq,Rs,Rt,Ru,Rv,Rw,Rx]
            have hOlt:∀j∈O,j<s.next:=hmd.dest.lt
            have hs12:s1.next≤s2.next:=p3
            have hold2:Old s0.next s0 s2:=(hold.trans (hold1.mono hns)).trans ⟨p3,fun j hj=>p4 j (by have:=hold1.1;omega) (fun hm=>by have:=hmd.own j hm;omega)⟩
            have old_slot:∀u∈us,∀j,slot u=some j→s2.heap.get j=s.heap.get j:=by
              intro u hu j hj
              obtain⟨g1,g2,g3⟩:=hmd.slots u hu j hj
              rw[p4 j (by have:=hold1.1;omega) g3]
              exact hold1.2 j g2
            have v5_slot:∀j,slot v5=some j→s2.heap.get j=s1.heap.get j:=by
              intro j hj
              have h1:=hO5.2 j hj
              exact p4 j (hd5.slot_lt j hj) (fun hm=>by have:=hOlt j hm;omega)
            refine ih i' (us++[v5]) (cs++[out]) O' v' s2 _ _ _ _ _ _ _ _ _ (by omega) hi2 ⟨?_,?_,?_,?_⟩ (fun L hL=>?_) (by rw[List.length_append];simp;omega) hold2
            · rw[List.length_append];exact p2
            · refine((hmd.rows.keep old_slot).mono (Nat.le_trans hold1.1 hs12)).append (RowCells.one ?_)
              exact((hd5.slice).keep v5_slot).mono hs12
            · intro u hu j hj
              have hO'j:j<s1.next→j ∉ O→j ∉ O':=fun h1 h2 h3=>(p5 j h3).elim h2 (fun h=>by omega)
              rcases List.mem_append.1 hu with hu | hu
              · obtain⟨g1,g2,g3⟩:=hmd.slots u hu j hj
                exact⟨g1,by have:=hold1.1;omega,hO'j (by have:=hold1.1;omega) g3⟩
              · have:u=v5:=by simpa using hu
                subst this
                have h1:=hO5.2 j hj
                have h2:=hd5.slot_lt j hj
                exact⟨by omega,by omega,hO'j h2 (fun hm=>by have:=hOlt j hm;omega)⟩
            · intro j hj
              exact(p5 j hj).elim (hmd.own j) (fun h=>by have:=hold1.1;omega)
            · rcases List.mem_append.1 hL with h | h
              · exact hdr L h
              · rw[List.mem_singleton.1 h];exact⟨hV,hol⟩
          simp only[if_true,Qa,Qb,Qc,Qd,Qe,Qf,Qg,Qh,Qi,Qj,Qk,Ql,Qm,Qn,true_and,and_true,Qo,Qp,Qq,Qr,Qs,Qt,Qu,Qv,Qw,Qx,Qy,Qz,Ra,Rb,Rc,Rd,Re,Rf,Rg,Rh,Ri,Rj,Rk,Rl,Rm,Ya,Yb,Yc,Rn,Ro,Rp,Yd,Ye,Rq,Rs,Rt,Ru,Rv,Rw,Rx]
          by_cases hpos:0<out.length
          · have d1:decide ((0:Int)<(out.length:Int))=true:=decide_eq_true (by omega)
            simp only[c31o18,l5,d1,Qa,Qb,Qc,Qd,Qe,Qf,Qg,Qh,Qi,Qj,Qk,Ql,Qm,Qn,true_and,and_true,Qo,Qp,Qq,Qr,Qs,Qt,Qu,Qv,Qw,Qx,Qy,Qz,Ra,Rb,Rc,Rd,Re,Rf,Rg,Rh,Ri,Rj,Rk,Rl,Rm,Ya,Yb,Yc,Rn,Ro,Rp,Yd,Ye,Rq,Rs,Rt,Ru,Rv,Rw,Rx]
            have:=app (.bool true)
            simp only[c31o19,Qa,Qb,Qc,Qd,Qe,Qf,Qg,Qh,Qi,Qj,Qk,Ql,Qm,Qn,true_and,and_true,Qo,Qp,Qq,Qr,Qs,Qt,Qu,Qv,Qw,Qx,Qy,Qz,Ra,Rb,Rc,Rd,Re,Rf,Rg,Rh,Ri,Rj,Rk,Rl,Rm,Ya,Yb,Yc,Rn,Ro,Rp,Yd,Ye,Rq,Rs,Rt,Ru,Rv,Rw,Rx]at this ⊢
            exact this
          · have d1:decide ((0:Int)<(out.length:Int))=false:=decide_eq_false (by omega)
            by_cases hz:size=0
            · have d2 : decide ((size : Int) = 0) = true := decide_eq_true (by omega)
              have hlt':i' - 1<bs.length:=by omega
              have hx':bs[i' - 1]? = some bs[i' - 1]:=List.getElem?_eq_getElem hlt'
              obtain⟨p',o',ep,hp',hload'⟩:=hc (i' - 1) _ (get_u8vs hx')
              injection ep with ep
              injection ep with ep1 ep2
              subst ep1;subst ep2
              have e1':=idx_slice (cap:=cap) (i:=p) (o:=o) Try.underlying42 sz5 hlt'
              have ld':loadV Try.prog s1 5 (.ptr (some (p,o+(i' - 1) * 1)))=some (u8v bs[i' - 1]):=load_one ag5 (by rw[Nat.mul_one,load1_eq (hold1.2 p (by omega)),load1_eq (hold.2 p (by omega))];exact hload')
              have e5:=bin_sub Try.prog 3 (i':Int) 1 ⟨by omega,by omega⟩
              have e5':(i':Int) - 1=((i' - 1:Nat):Int):=by omega
              by_cases h7:bs[i' - 1]=7
              · simp only[c31o18,l5,d1,d2,e5,e5',e1',ld',bin_eql8,h7,decide_true,Qa,Qb,Qc,Qd,Qe,Qf,Qg,Qh,Qi,Qj,Qk,Ql,Qm,Qn,true_and,and_true,Qo,Qp,Qq,Qr,Qs,Qt,Qu,Qv,Qw,Qx,Qy,Qz,Ra,Rb,Rc,Rd,Re,Rf,Rg,Rh,Ri,Rj,Rk,Rl,Rm,Ya,Yb,Yc,Rn,Ro,Rp,Yd,Ye,Rq,Rs,Rt,Ru,Rv,Rw,Rx]
                have:=app (.bool true)
                simp only[c31o19,Qa,Qb,Qc,Qd,Qe,Qf,Qg,Qh,Qi,Qj,Qk,Ql,Qm,Qn,true_and,and_true,Qo,Qp,Qq,Qr,Qs,Qt,Qu,Qv,Qw,Qx,Qy,Qz,Ra,Rb,Rc,Rd,Re,Rf,Rg,Rh,Ri,Rj,Rk,Rl,Rm,Ya,Yb,Yc,Rn,Ro,Rp,Yd,Ye,Rq,Rs,Rt,Ru,Rv,Rw,Rx]at this ⊢
                exact this
              · simp only[c31o18,l5,d1,d2,e5,e5',e1',ld',bin_eql8,h7,decide_false,Qa,Qb,Qc,Qd,Qe,Qf,Qg,Qh,Qi,Qj,Qk,Ql,Qm,Qn,true_and,and_true,Qo,Qp,Qq,Qr,Qs,Qt,Qu,Qv,Qw,Qx,Qy,Qz,Ra,Rb,Rc,Rd,Re,Rf,Rg,Rh,Ri,Rj,Rk,Rl,Rm,Ya,Yb,Yc,Rn,Ro,Rp,Yd,Ye,Rq,Rs,Rt,Ru,Rv,Rw,Rx]
                exact noapp _
            · have d2:decide ((size:Int)=0)=false:=decide_eq_false (by omega)
              simp only[c31o18,l5,d1,d2,Qa,Qb,Qc,Qd,Qe,Qf,Qg,Qh,Qi,Qj,Qk,Ql,Qm,Qn,true_and,and_true,Qo,Qp,Qq,Qr,Qs,Qt,Qu,Qv,Qw,Qx,Qy,Qz,Ra,Rb,Rc,Rd,Re,Rf,Rg,Rh,Ri,Rj,Rk,Rl,Rm,Ya,Yb,Yc,Rn,Ro,Rp,Yd,Ye,Rq,Rs,Rt,Ru,Rv,Rw,Rx]
              exact noapp _
        generalize hW:WC E none (CCode.loop c31l20) Q=W at rest
        by_cases h29:bs[i] % 29=7
        · have:=rest 0 (.bool true) (by omega)
          simp only[c31l20,c31o3,len_slice Try.underlying42,hkk,l4,hmm,c31o4,e1,ld,q5,q6,q7,c31o5,q8,bin_eql8,h29,decide_true,c31o6,c31o7,e3,e3',c31o8,c31o9,Qa,Qb,Qc,Qd,Qe,Qf,Qg,Qh,Qi,Qj,Qk,Ql,Qm,Qn,true_and,and_true,Qo,Qp,Qq,Qr,Qs,Qt,Qu,Qv,Qw,Qx,Qy,Qz,Ra,Rb,Rc,Rd,Re,Rf,Rg,Rh,Ri,Rj,Rk,Rl,Rm,Ya,Yb,Yc,Rn,Ro,Rp,Yd,Ye,Rq,Rs,Rt,Ru,Rv,Rw,Rx]at this ⊢
          exact this
        · have:=rest sz (.bool false) hsz4
          simp only[c31l20,c31o3,len_slice Try.underlying42,hkk,l4,hmm,c31o4,e1,ld,q5,q6,q7,hsz,c31o5,q8,bin_eql8,h29,decide_false,c31o7,e3,e3',c31o8,c31o9,Qa,Qb,Qc,Qd,Qe,Qf,Qg,Qh,Qi,Qj,Qk,Ql,Qm,Qn,true_and,and_true,Qo,Qp,Qq,Qr,Qs,Qt,Qu,Qv,Qw,Qx,Qy,Qz,Ra,Rb,Rc,Rd,Re,Rf,Rg,Rh,Ri,Rj,Rk,Rl,Rm,Ya,Yb,Yc,Rn,Ro,Rp,Yd,Ye,Rq,Rs,Rt,Ru,Rv,Rw,Rx]at this ⊢
          exact this
      · have hmm:decide ((cs.length:Int)<(most:Int))=false:=decide_eq_false (by omega)
        simp only[c31l20,c31o3,len_slice Try.underlying42,hkk,l4,hmm,Qa,Qb,Qc,Qd,Qe,Qf,Qg,Qh,Qi,Qj,Qk,Ql,Qm,Qn,true_and,and_true,Qo,Qp,Qq,Qr,Qs,Qt,Qu,Qv,Qw,Qx,Qy,Qz,Ra,Rb,Rc,Rd,Re,Rf,Rg,Rh,Ri,Rj,Rk,Rl,Rm,Ya,Yb,Yc,Rn,Ro,Rp,Yd,Ye,Rq,Rs,Rt,Ru,Rv,Rw,Rx]
        exact hq s v4 us cs O _ _ _ _ _ _ _ _ _ _ hmd hdr hle hold
    · have hkk:decide ((i:Int)<(bs.length:Int))=false:=decide_eq_false (by omega)
      simp only[c31l20,c31o3,len_slice Try.underlying42,hkk,Qa,Qb,Qc,Qd,Qe,Qf,Qg,Qh,Qi,Qj,Qk,Ql,Qm,Qn,true_and,and_true,Qo,Qp,Qq,Qr,Qs,Qt,Qu,Qv,Qw,Qx,Qy,Qz,Ra,Rb,Rc,Rd,Re,Rf,Rg,Rh,Ri,Rj,Rk,Rl,Rm,Ya,Yb,Yc,Rn,Ro,Rp,Yd,Ye,Rq,Rs,Rt,Ru,Rv,Rw,Rx]
      exact hq s v4 us cs O _ _ _ _ _ _ _ _ _ _ hmd hdr hle hold
theorem drawn_ok{E:Env}(hE:Good E){s:ASt}{b n most:Nat}(hb:b≤s.next)(hn0:1≤n)(hn:n≤1000)(hmost:most≤1000){bs:List Int}(hbs:U8s bs)(hlen:bs.length<9223372036854775808){v:AV}(hv:SliceAt b s v (u8vs bs)):
    WF E 31 [iv (n:Int),v,iv (most:Int)] (fun r s'=>∃us cs O,Made20 s.next s' r us cs O∧Drawn n cs∧cs.length≤most∧Old s.next s s') s:=by
  obtain⟨a,cap,rfl,hc⟩:=hv
  have hl:(u8vs bs).length=bs.length:=List.length_map _
  rw[hl]
  refine hE.go comp31 (by decide) rfl ?_
  simp only[c31,c31o0,c31o1,c31o2,Qa,Qb,Qc,Qd,Qe,Qf,Qg,Qh,Qi,Qj,Qk,Ql,Qm,Qn,true_and,and_true,Qo,Qp,Qq,Qr,Qs,Qt,Qu,Qv,Qw,Qx,Qy,Qz,Ra,Rb,Rc,Rd,Re,Rf,Rg,Rh,Ri,Rj,Rk,Rl,Rm,Ya,Yb,Yc,Rn,Ro,Rp,Yd,Ye,Rq,Rs,Rt,Ru,Rv,Rw,Rx]
  refine drawn_loop hE hb hn0 hn hmost hbs hlen hc _ ?_ bs.length 0 [] [] [] _ s _ _ _ _ _ _ _ _ _ (by omega) (Nat.zero_le _) ⟨Dest.nil s 1,RowCells.nil _ _,(fun u hu=>by cases hu),(fun j hj=>by cases hj)⟩ (by simp[Drawn]) (Nat.zero_le _) (Old.refl _ _)
  intro s' v' us' cs' O' y5 y6 y7 y8 y9 y10 y11 y12 y13 y14 h1 h2 h3 h4
  simp only[if_true,c31o21,Qa,Qb,Qc,Qd,Qe,Qf,Qg,Qh,Qi,Qj,Qk,Ql,Qm,Qn,true_and,and_true,Qo,Qp,Qq,Qr,Qs,Qt,Qu,Qv,Qw,Qx,Qy,Qz,Ra,Rb,Rc,Rd,Re,Rf,Rg,Rh,Ri,Rj,Rk,Rl,Rm,Ya,Yb,Yc,Rn,Ro,Rp,Yd,Ye,Rq,Rs,Rt,Ru,Rv,Rw,Rx]
  exact⟨us',cs',O',h1,h2,h3,h4⟩
theorem Made20.rowsIn{lo:Nat}{s:ASt}{v:AV}{us:List AV}{cs:List (List Int)}{O:List Nat}(h:Made20 lo s v us cs O):RowsIn (fun j=>j<s.next) s v cs:=
  ⟨us,h.dest.slice,fun j hj=>h.dest.slot_lt j hj,h.rows,fun u hu j hj=>(h.slots u hu j hj).2.1⟩
def bitsN(t:Nat→Bool):Nat→Nat
  | 0=>0
  | k+1=>if t (k+1)=true then bitsN t k ||| 2 ^ k else bitsN t k
theorem bitsN_lt(t:Nat→Bool):∀k,bitsN t k<2 ^ k
  | 0=>by simp[bitsN]
  | k+1=>by
    have h:=bitsN_lt t k
    have e:2 ^ (k+1)=2 ^ k * 2:=Nat.pow_succ ..
    unfold bitsN
    split
    · exact Nat.or_lt_two_pow (by omega) (by omega)
    · omega
theorem bitsN_bit (t : Nat → Bool) : ∀ k i, (bitsN t k).testBit i = (decide (i < k) && t (i + 1))
  | 0,i=>by simp[bitsN]
  | k + 1, i => by
    have h:=bitsN_bit t k i
    have hlt:=bitsN_lt t k
    unfold bitsN
    by_cases e:i=k
    · subst e
      have h0:(bitsN t i).testBit i=false:=by rw[h];simp
      split
      · rename_i ht
        rw[Nat.testBit_or,Nat.testBit_two_pow_self,h0,ht];simp
      · rename_i ht
        rw[h0]
        have:t (i+1)=false:=by simpa using ht
        rw[this];simp
    · have hd:decide (i<k+1)=decide (i<k):=decide_eq_decide.2 (by omega)
      rw[hd]
      split
      · rw[Nat.testBit_or,Nat.testBit_two_pow_of_ne (fun q=>e q.symm),Bool.or_false,h]
      · exact h
theorem pow50{n:Nat}(h:n≤50):2 ^ n<1152921504606846976:=by
  have:2 ^ n≤2 ^ 50:=Nat.pow_le_pow_right (by decide) h
  have:(2:Nat) ^ 50=1125899906842624:=rfl
  omega
theorem litN_bits{t:Nat→Bool}{n:Nat}{x:Int}(hx:VL n x):litN (bitsN t n) x=true↔Sat t x:=by
  obtain⟨h0,h1⟩:=hx
  unfold litN Sat
  by_cases hp:0<x
  · rw[if_pos hp,bitsN_bit,show decide ((x - 1).toNat<n)=true from decide_eq_true (by omega),show(x - 1).toNat+1=x.natAbs by omega]
    simp only[Bool.true_and]
    constructor
    · intro h;exact .inl ⟨hp,h⟩
    · rintro (⟨_, h⟩ | ⟨h, _⟩)
      · exact h
      · omega
  · rw[if_neg hp,bitsN_bit,show decide ((-x - 1).toNat<n)=true from decide_eq_true (by omega),show(-x - 1).toNat+1=x.natAbs by omega]
    simp only[Bool.true_and,Bool.not_eq_true']
    constructor
    · intro h;exact .inr ⟨by omega,h⟩
    · rintro (⟨h, _⟩ | ⟨_, h⟩)
      · omega
      · exact h
theorem holdsN_bits{t:Nat→Bool}{n:Nat}{c:List Int}(hc:∀x∈c,VL n x):holdsN (bitsN t n) c=true↔∃y∈c,Sat t y:=by
  unfold holdsN
  rw[List.any_eq_true]
  constructor
  · rintro⟨x,h1,h2⟩;exact⟨x,h1,(litN_bits (hc x h1)).1 h2⟩
  · rintro⟨x,h1,h2⟩;exact⟨x,h1,(litN_bits (hc x h1)).2 h2⟩
theorem bits_loop{E:Env}(hE:Good E){B:Nat→Prop}{s:ASt}{V:Nat→Option Sv}(h:Sols B s V){p:Nat}{v:Sv}(hp:V p=some v){n:Nat}(hn:n≤50)(x2:AV){Q:ARes→Prop}
    (hq:∀y4 y5 y6,Q ⟨.exit 0,[ptrA p,iv (n:Int),x2,iv (bitsN (tells v.model) n:Int),y4,y5,y6],[],s⟩):
    ∀ (m k:Nat) (x5 x6:AV),n - k=m→k≤n→WC E none (.loop c38l7) Q [ptrA p,iv (n:Int),x2,iv (bitsN (tells v.model) k:Int),iv ((k+1:Nat):Int),x5,x6] [] s:=by
  intro m
  induction m with
  | zero =>
    intro k x5 x6 hm hk
    have:k=n:=by omega
    subst this
    have hd:decide (((k+1:Nat):Int)≤(k:Int))=false:=decide_eq_false (by omega)
    refine WC.loop' ?_
    simp only[c38l7,c38o3,hd,Qa,Qb,Qc,Qd,Qe,Qf,Qg,Qh,Qi,Qj,Qk,Ql,Qm,Qn,true_and,and_true,Qo,Qp,Qq,Qr,Qs,Qt,Qu,Qv,Qw,Qx,Qy,Qz,Ra,Rb,Rc,Rd,Re,Rf,Rg,Rh,Ri,Rj,Rk,Rl,Rm,Ya,Yb,Yc,Rn,Ro,Rp,Yd,Ye,Rq,Rs,Rt,Ru,Rv,Rw,Rx]
    exact hq _ _ _
  | succ m ih =>
    intro k x5 x6 hm hk
    have hd:decide (((k+1:Nat):Int)≤(n:Int))=true:=decide_eq_true (by omega)
    have e3:=bin_add Try.prog 3 ((k+1:Nat):Int) 1 ⟨by omega,by omega⟩
    have e3':(((k+1:Nat):Int)+1)=((k+1+1:Nat):Int):=by omega
    have e4:=bin_sub Try.prog 3 ((k+1:Nat):Int) 1 ⟨by omega,by omega⟩
    have e4':(((k+1:Nat):Int) - 1)=(k:Int):=by omega
    have e5:=shl_nat (n:=k) (by omega)
    have e6:=or_nat (a:=bitsN (tells v.model) k) (b:=2 ^ k) (Nat.lt_trans (bitsN_lt _ k) (pow50 (by omega))) (pow50 (by omega))
    have hv:=sols_value hE h hp (k:=k+1) (by omega)
    simp only[ptrA]at hv
    refine WC.loop' ?_
    generalize hW:WC E none (CCode.loop c38l7) Q=W at ih ⊢
    simp only[c38l7,c38o3,hd,c38o4,ptrA,Qa,Qb,Qc,Qd,Qe,Qf,Qg,Qh,Qi,Qj,Qk,Ql,Qm,Qn,true_and,and_true,Qo,Qp,Qq,Qr,Qs,Qt,Qu,Qv,Qw,Qx,Qy,Qz,Ra,Rb,Rc,Rd,Re,Rf,Rg,Rh,Ri,Rj,Rk,Rl,Rm,Ya,Yb,Yc,Rn,Ro,Rp,Yd,Ye,Rq,Rs,Rt,Ru,Rv,Rw,Rx]
    refine hv.mono ?_
    rintro _ _ ⟨rfl,rfl⟩
    cases ht:tells v.model (k+1)with
    | true =>
      have eb:bitsN (tells v.model) (k+1)=bitsN (tells v.model) k ||| 2 ^ k:=by rw[bitsN,if_pos ht]
      simp only[c38o5,e4,e4',e5,e6,c38o6,e3,e3',Qa,Qb,Qc,Qd,Qe,Qf,Qg,Qh,Qi,Qj,Qk,Ql,Qm,Qn,true_and,and_true,Qo,Qp,Qq,Qr,Qs,Qt,Qu,Qv,Qw,Qx,Qy,Qz,Ra,Rb,Rc,Rd,Re,Rf,Rg,Rh,Ri,Rj,Rk,Rl,Rm,Ya,Yb,Yc,Rn,Ro,Rp,Yd,Ye,Rq,Rs,Rt,Ru,Rv,Rw,Rx]
      rw[← eb]
      exact ih (k+1) _ _ (by omega) (by omega)
    | false =>
      have eb:bitsN (tells v.model) (k+1)=bitsN (tells v.model) k:=by rw[bitsN,if_neg (by rw[ht];decide)]
      simp only[c38o6,e3,e3',Qa,Qb,Qc,Qd,Qe,Qf,Qg,Qh,Qi,Qj,Qk,Ql,Qm,Qn,true_and,and_true,Qo,Qp,Qq,Qr,Qs,Qt,Qu,Qv,Qw,Qx,Qy,Qz,Ra,Rb,Rc,Rd,Re,Rf,Rg,Rh,Ri,Rj,Rk,Rl,Rm,Ya,Yb,Yc,Rn,Ro,Rp,Yd,Ye,Rq,Rs,Rt,Ru,Rv,Rw,Rx]
      rw[← eb]
      exact ih (k+1) _ _ (by omega) (by omega)
theorem bits_ok{E:Env}(hE:Good E){B:Nat→Prop}{s:ASt}{V:Nat→Option Sv}(h:Sols B s V){p:Nat}{v:Sv}(hp:V p=some v){n:Nat}(hn:n≤50):
    WF E 38 [ptrA p,iv (n:Int)] (fun r s'=>r=iv (bitsN (tells v.model) n:Int)∧s=s') s:=by
  refine hE.go comp38 (by decide) rfl ?_
  have:=bits_loop hE h hp hn (iv 0) (Q:=InBlock 0 (seqK (Qa E none (.seq (.ops c38o8) .ret) (Ends Try.prog c38.results (fun r s'=>r=iv (bitsN (tells v.model) n:Int)∧s=s'))) (Ends Try.prog c38.results (fun r s'=>r=iv (bitsN (tells v.model) n:Int)∧s=s')))) ?_ (n - 0) 0 undefA undefA rfl (Nat.zero_le _)
  · simp only [ptrA, c38, bitsN, Qa, Qb, Qc, Qd, Qe, Qf, Qg, Qh, Qi, Qj, Qk, Ql, Qm, Qn, true_and, and_true, Qo, Qp, Qq, Qr, Qs, Qt, Qu, Qv, Qw, Qx, Qy, Qz, Ra, Rb, Rc, Rd, Re, Rf, Rg, Rh, Ri, Rj, Rk, Rl, Rm, Ya, Yb, Yc, Rn, Ro, Rp, Yd, Ye, Rq, Rs, Rt, Ru, Rv, Rw, Rx] at this
    simp only[c38,c38o0,c38o1,c38o2,ptrA,Qa,Qb,Qc,Qd,Qe,Qf,Qg,Qh,Qi,Qj,Qk,Ql,Qm,Qn,true_and,and_true,Qo,Qp,Qq,Qr,Qs,Qt,Qu,Qv,Qw,Qx,Qy,Qz,Ra,Rb,Rc,Rd,Re,Rf,Rg,Rh,Ri,Rj,Rk,Rl,Rm,Ya,Yb,Yc,Rn,Ro,Rp,Yd,Ye,Rq,Rs,Rt,Ru,Rv,Rw,Rx]
    exact this
  · intro y4 y5 y6
    simp only[if_true,c38,c38o8,Qa,Qb,Qc,Qd,Qe,Qf,Qg,Qh,Qi,Qj,Qk,Ql,Qm,Qn,true_and,and_true,Qo,Qp,Qq,Qr,Qs,Qt,Qu,Qv,Qw,Qx,Qy,Qz,Ra,Rb,Rc,Rd,Re,Rf,Rg,Rh,Ri,Rj,Rk,Rl,Rm,Ya,Yb,Yc,Rn,Ro,Rp,Yd,Ye,Rq,Rs,Rt,Ru,Rv,Rw,Rx]
theorem of_loop{E:Env}(hE:Good E){B:Nat→Prop}{s0:ASt}{V:Nat→Option Sv}{n p:Nat}(hn:n≤1000){cs:List (List Int)}(hcs:∀L∈cs,(∀x∈L,VL n x)∧L.length≤12)(hlen:cs.length≤1000){u:AV}(hr:RowsIn B s0 u cs)(v0 v2 x5:AV){Q:ARes→Prop}
    (hq:∀s' v y4 y6 y7,Sols B s' (setV V p v)→Keep B s0 s'→SI n cs.length cs 0 v→v.many=0→Q ⟨.exit 0,[v0,u,v2,ptrA p,y4,x5,y6,y7],[],s'⟩):
    ∀ (l:List (List Int)) (k:Nat) (s:ASt) (v:Sv) (x6 x7:AV),cs.drop k=l→k≤cs.length→Sols B s (setV V p v)→Keep B s0 s→SI n k (cs.take k) 0 v→v.many=0 →
      WC E none (.loop c32l9) Q [v0,u,v2,ptrA p,iv (k:Int),x5,x6,x7] [] s:=by
  intro l
  induction l with
  | nil =>
    intro k s v x6 x7 hd hk hS hK hI hm
    have:=drop_end hd hk
    subst this
    rw[List.take_length]at hI
    have hr':=hr.keep hK
    refine WC.loop' ?_
    simp only[c32l9,c32o5,hr'.len,Int.lt_irrefl,decide_false,Qa,Qb,Qc,Qd,Qe,Qf,Qg,Qh,Qi,Qj,Qk,Ql,Qm,Qn,true_and,and_true,Qo,Qp,Qq,Qr,Qs,Qt,Qu,Qv,Qw,Qx,Qy,Qz,Ra,Rb,Rc,Rd,Re,Rf,Rg,Rh,Ri,Rj,Rk,Rl,Rm,Ya,Yb,Yc,Rn,Ro,Rp,Yd,Ye,Rq,Rs,Rt,Ru,Rv,Rw,Rx]
    exact hq _ v _ _ _ hS hK hI hm
  | cons L l ih =>
    intro k s v x6 x7 hd hk hS hK hI hm
    obtain⟨hlt,hx,hd'⟩:=drop_facts hd
    have hr':=hr.keep hK
    obtain⟨a,w,e1,e2,hu,hB⟩:=hr'.row hx
    have hkk:decide ((k:Int)<(cs.length:Int))=true:=decide_eq_true (by omega)
    have e3:=bin_add Try.prog 3 (k:Int) 1 ⟨by omega,by omega⟩
    have hcast:((k:Int)+1)=((k+1:Nat):Int):=by omega
    obtain⟨h6,h7⟩:=hcs L (List.mem_of_getElem? hx)
    have hadd:=sols_add hE hS (setV_same V p v) hI (hbd:=⟨hn,by omega,.inr (by omega)⟩) h6 h7 (Nat.le_refl _) hu hB
    simp only[ptrA]at hadd
    refine WC.loop' ?_
    generalize hW:WC E none (CCode.loop c32l9) Q=W at ih ⊢
    simp only[c32l9,c32o5,c32o6,ptrA,hr'.len,hkk,e1,e2,Qa,Qb,Qc,Qd,Qe,Qf,Qg,Qh,Qi,Qj,Qk,Ql,Qm,Qn,true_and,and_true,Qo,Qp,Qq,Qr,Qs,Qt,Qu,Qv,Qw,Qx,Qy,Qz,Ra,Rb,Rc,Rd,Re,Rf,Rg,Rh,Ri,Rj,Rk,Rl,Rm,Ya,Yb,Yc,Rn,Ro,Rp,Yd,Ye,Rq,Rs,Rt,Ru,Rv,Rw,Rx]
    refine hadd.mono ?_
    rintro _ s' ⟨rfl,v',g1,g2,g3,g4⟩
    rw[setV_set]at g3
    have hd0:decide ((0:Int)≠0)=false:=by decide
    simp only[hd0,c32o8,e3,hcast,Qa,Qb,Qc,Qd,Qe,Qf,Qg,Qh,Qi,Qj,Qk,Ql,Qm,Qn,true_and,and_true,Qo,Qp,Qq,Qr,Qs,Qt,Qu,Qv,Qw,Qx,Qy,Qz,Ra,Rb,Rc,Rd,Re,Rf,Rg,Rh,Ri,Rj,Rk,Rl,Rm,Ya,Yb,Yc,Rn,Ro,Rp,Yd,Ye,Rq,Rs,Rt,Ru,Rv,Rw,Rx]
    refine ih (k+1) s' v' _ _ hd' hlt g3 (hK.trans g4) ?_ (g2.trans hm)
    have et:cs.take (k+1)=cs.take k++[L]:=by
      rw[List.take_succ_eq_append_getElem hlt]
      rw[List.getElem?_eq_getElem hlt]at hx
      injection hx with hx
      rw[hx]
    rw[et]
    exact g1
theorem of32_ok{E:Env}(hE:Good E){B:Nat→Prop}{s:ASt}{V:Nat→Option Sv}(h:Sols B s V){n:Nat}(hn:n≤1000){cs:List (List Int)}(hcs:∀L∈cs,(∀x∈L,VL n x)∧L.length≤12)(hlen:cs.length≤1000){u:AV}(hr:RowsIn B s u cs):
    WF E 32 [iv (n:Int),u] (fun r s'=>∃p v,r=ptrA p∧V p=none∧Sols B s' (setV V p v)∧Keep B s s'∧SI n cs.length cs 0 v∧v.many=0) s:=by
  refine hE.go comp32 (by decide) rfl ?_
  simp only[c32,c32o0,c32o1,Qa,Qb,Qc,Qd,Qe,Qf,Qg,Qh,Qi,Qj,Qk,Ql,Qm,Qn,true_and,and_true,Qo,Qp,Qq,Qr,Qs,Qt,Qu,Qv,Qw,Qx,Qy,Qz,Ra,Rb,Rc,Rd,Re,Rf,Rg,Rh,Ri,Rj,Rk,Rl,Rm,Ya,Yb,Yc,Rn,Ro,Rp,Yd,Ye,Rq,Rs,Rt,Ru,Rv,Rw,Rx]
  refine(sols_new hE h hn).mono ?_
  rintro _ s1 ⟨v,rfl,hV,g1,g2,g3,g4⟩
  obtain⟨i1,i2,_,_⟩:=g3.inv ⟨hn,by omega,.inr (by omega)⟩
  have hvars:=sols_vars hE g1 (setV_same V s.next v) (n:=n) (by omega) i1.fit.siz.value
  have he:=eq_ptr44 s.next
  have hne:decide ((n:Int)≠(n:Int))=false:=by simp
  simp only[ptrA]at he hvars
  simp only[c32o2,ptrA,he,Qa,Qb,Qc,Qd,Qe,Qf,Qg,Qh,Qi,Qj,Qk,Ql,Qm,Qn,true_and,and_true,Qo,Qp,Qq,Qr,Qs,Qt,Qu,Qv,Qw,Qx,Qy,Qz,Ra,Rb,Rc,Rd,Re,Rf,Rg,Rh,Ri,Rj,Rk,Rl,Rm,Ya,Yb,Yc,Rn,Ro,Rp,Yd,Ye,Rq,Rs,Rt,Ru,Rv,Rw,Rx]
  refine hvars.mono ?_
  rintro _ _ ⟨rfl,rfl⟩
  simp only[hne,c32o4,Qa,Qb,Qc,Qd,Qe,Qf,Qg,Qh,Qi,Qj,Qk,Ql,Qm,Qn,true_and,and_true,Qo,Qp,Qq,Qr,Qs,Qt,Qu,Qv,Qw,Qx,Qy,Qz,Ra,Rb,Rc,Rd,Re,Rf,Rg,Rh,Ri,Rj,Rk,Rl,Rm,Ya,Yb,Yc,Rn,Ro,Rp,Yd,Ye,Rq,Rs,Rt,Ru,Rv,Rw,Rx]
  have:=of_loop hE (V:=V) (p:=s.next) hn hcs hlen (hr.keep g2) (iv (n:Int)) (.ptr none) (.bool false) (Q:=InBlock 0 (seqK (Qa E none (.seq (.ops c32o10) .ret) (Ends Try.prog c32.results (fun r s'=>∃p v,r=ptrA p∧V p=none∧Sols B s' (setV V p v)∧Keep B s s'∧SI n cs.length cs 0 v∧v.many=0))) (Ends Try.prog c32.results (fun r s'=>∃p v,r=ptrA p∧V p=none∧Sols B s' (setV V p v)∧Keep B s s'∧SI n cs.length cs 0 v∧v.many=0))))
    ?_ cs 0 s1 v undefA undefA rfl (Nat.zero_le _) g1 (Keep.refl _ _) g3 g4
  · simp only[ptrA,c32,Qa,Qb,Qc,Qd,Qe,Qf,Qg,Qh,Qi,Qj,Qk,Ql,Qm,Qn,true_and,and_true,Qo,Qp,Qq,Qr,Qs,Qt,Qu,Qv,Qw,Qx,Qy,Qz,Ra,Rb,Rc,Rd,Re,Rf,Rg,Rh,Ri,Rj,Rk,Rl,Rm,Ya,Yb,Yc,Rn,Ro,Rp,Yd,Ye,Rq,Rs,Rt,Ru,Rv,Rw,Rx]at this ⊢
    exact this
  · intro s' v' y4 y6 y7 k1 k2 k3 k4
    simp only[if_true,c32,c32o10,Qa,Qb,Qc,Qd,Qe,Qf,Qg,Qh,Qi,Qj,Qk,Ql,Qm,Qn,true_and,and_true,Qo,Qp,Qq,Qr,Qs,Qt,Qu,Qv,Qw,Qx,Qy,Qz,Ra,Rb,Rc,Rd,Re,Rf,Rg,Rh,Ri,Rj,Rk,Rl,Rm,Ya,Yb,Yc,Rn,Ro,Rp,Yd,Ye,Rq,Rs,Rt,Ru,Rv,Rw,Rx]
    exact⟨s.next,v',rfl,hV,k1,g2.trans k2,k3,k4⟩
theorem bld_pair(x y:Int):sliceRowA Try.prog 23 2 (zipIdx [0,1] [iv x,iv y])=some (mkRow 3 1 [iv x,iv y]):=by
  simp[sliceRowA,Try.underlying23,sz3,guardB,zr3,zipIdx,fillA,AV.cells,rep]
  rfl
theorem row_made{s:ASt}{L:List Int}(hL:L≠[]):SliceAt (s.next+1) (newObj s (mkRow 3 1 (ivs L))) (.slice (some (s.next,0)) L.length (some L.length)) (ivs L)∧∀j,slot (.slice (some (s.next,0)) L.length (some L.length))=some j→j=s.next:=by
  obtain⟨r,h1,h2,h3,h4,h5,h6⟩:=holds_mkRow 3 1 (ivs L)
  refine⟨⟨some (s.next,0),some L.length,by simp,fun k u hk=>⟨s.next,0,rfl,Nat.lt_succ_self _,?_⟩⟩,fun j hj=>?_⟩
  · rw[Nat.zero_add]
    exact load1_row (by rw[heap_new,if_pos rfl,h1]) (by rw[h2.1];exact lt_of_get hk) (h2.2 k u hk)
  · simp[slot]at hj
    exact hj.symm
theorem add_pair{E:Env}(hE:Good E){B:Nat→Prop}{s:ASt}{V:Nat→Option Sv}(h:Sols B s V){p:Nat}{v:Sv}(hp:V p=some v){n A:Nat}{F:List (List Int)}{M:Nat}(hI:SI n A F M v)(hbd:Bd n A M)(x y:Int)(hx:VL n x)(hy:VL n y){K:AV→ASt→Prop}
    (hK:∀s' v',SI n (A+1) (F++[[x,y]]) M v'→Sols B s' (setV V p v')→Keep B s s'→K (iv 0) s'):
    WF E 36 [.ptr (some (p,0)),.slice (some (s.next,0)) 2 (some 2)] K (newObj s (mkRow 3 1 [iv x,iv y])):=by
  have ho:=Old.new s (mkRow 3 1 [iv x,iv y])
  have h1:=h.old ho
  obtain⟨g1,g2⟩:=row_made (s:=s) (L:=[x,y]) (by simp)
  have hk1:=Keep.old h ho
  have hadd:=sols_add hE h1 hp hI hbd (f:=[x,y]) (fun q hq=>by
    rcases List.mem_cons.1 hq with e | e
    · rw[e];exact hx
    · rw[List.mem_singleton.1 e];exact hy) (by simp) (b:=s.next+1) (Nat.le_refl _) g1 (fun j hj=>by rw[g2 j hj];exact .inr ⟨Nat.le_refl _,Nat.lt_succ_self _⟩)
  refine hadd.mono ?_
  rintro _ s' ⟨rfl,v',q1,q2,q3,q4⟩
  exact hK s' v' q1 (q3.less fun j hj=>.inl hj) (hk1.trans (q4.mono fun j hj=>.inl hj))
theorem sat1{σ:Nat→Bool}:(Sat σ 1↔σ 1=true)∧(Sat σ 2↔σ 2=true)∧(Sat σ (-1)↔σ 1=false)∧(Sat σ (-2)↔σ 2=false):=by
  unfold Sat
  refine⟨⟨?_,fun h=>.inl ⟨by decide,h⟩⟩,⟨?_,fun h=>.inl ⟨by decide,h⟩⟩,⟨?_,fun h=>.inr ⟨by decide,h⟩⟩,⟨?_,fun h=>.inr ⟨by decide,h⟩⟩⟩<;>rintro(⟨a,b⟩ | ⟨a,b⟩)<;>first | exact b | omega
theorem models4{σ:Nat→Bool}:Models σ [[1,2],[-1,2],[1,-2]]↔σ 1=true∧σ 2=true:=by
  obtain⟨a,b,c,d⟩:=sat1 (σ:=σ)
  have e:Models σ [[1,2],[-1,2],[1,-2]]↔(Sat σ 1∨Sat σ 2)∧(Sat σ (-1)∨Sat σ 2)∧(Sat σ 1∨Sat σ (-2)):=by simp[Models]
  rw[e,a,b,c,d]
  cases σ 1<;>cases σ 2<;>simp
theorem models5{σ:Nat→Bool}:¬ Models σ [[1,2],[-1,2],[1,-2],[-1,-2]]:=by
  obtain⟨a,b,c,d⟩:=sat1 (σ:=σ)
  have e:Models σ [[1,2],[-1,2],[1,-2],[-1,-2]]↔(Sat σ 1∨Sat σ 2)∧(Sat σ (-1)∨Sat σ 2)∧(Sat σ 1∨Sat σ (-2))∧(Sat σ (-1)∨Sat σ (-2)):=by simp[Models]
  rw[e,a,b,c,d]
  cases σ 1<;>cases σ 2<;>simp
theorem works_ok{E:Env}(hE:Good E){B:Nat→Prop}{s:ASt}{V:Nat→Option Sv}(h:Sols B s V):WF E 37 [] (fun r s'=>r=.bool true∧Keep B s s') s:=by
  have hms:∀ (m:Nat) (i:Nat),Made.val i (.slice m)=.slice (some (i,0)) m (some m):=fun _ _=>rfl
  have hVL:VL 2 1∧VL 2 2∧VL 2 (-1)∧VL 2 (-2):=by decide
  obtain⟨w1,w2,w3,w4⟩:=hVL
  refine hE.go comp37 (by decide) rfl ?_
  simp only[c37,c37o0,c37o1,Qa,Qb,Qc,Qd,Qe,Qf,Qg,Qh,Qi,Qj,Qk,Ql,Qm,Qn,true_and,and_true,Qo,Qp,Qq,Qr,Qs,Qt,Qu,Qv,Qw,Qx,Qy,Qz,Ra,Rb,Rc,Rd,Re,Rf,Rg,Rh,Ri,Rj,Rk,Rl,Rm,Ya,Yb,Yc,Rn,Ro,Rp,Yd,Ye,Rq,Rs,Rt,Ru,Rv,Rw,Rx]
  refine(sols_new hE h (n:=2) (by decide)).mono ?_
  rintro _ s1 ⟨va,rfl,hVn,g1,k1,i1,_⟩
  generalize hp:s.next=p at *
  obtain⟨j1,j2,_,_⟩:=i1.inv ⟨by decide,by decide,.inr (by decide)⟩
  have hvars:=sols_vars hE g1 (setV_same V p va) (n:=2) (by decide) j1.fit.siz.value
  have bd:∀A M,A≤10→Bd 2 A M:=fun A M hA=>⟨by decide,by omega,.inl (by decide)⟩
  have e2:iv ((2:Nat):Int)=iv 2:=rfl
  have hd2:decide ((2:Int)≠2)=false:=by decide
  have h729:∀ (a:Int),iv ((729:Nat):Int)=iv 729:=fun _=>rfl
  simp only[ptrA,e2]at hvars
  simp only[c37o2,ptrA,Qa,Qb,Qc,Qd,Qe,Qf,Qg,Qh,Qi,Qj,Qk,Ql,Qm,Qn,true_and,and_true,Qo,Qp,Qq,Qr,Qs,Qt,Qu,Qv,Qw,Qx,Qy,Qz,Ra,Rb,Rc,Rd,Re,Rf,Rg,Rh,Ri,Rj,Rk,Rl,Rm,Ya,Yb,Yc,Rn,Ro,Rp,Yd,Ye,Rq,Rs,Rt,Ru,Rv,Rw,Rx]
  refine hvars.mono ?_
  rintro _ _ ⟨rfl,rfl⟩
  have hs1:=sols_solve hE g1 (setV_same V p va) i1 (bd 0 (0+729) (by decide)) (most:=729) (by decide) (by simp)
  simp only[ptrA]at hs1
  simp only[hd2,Qa,Qb,Qc,Qd,Qe,Qf,Qg,Qh,Qi,Qj,Qk,Ql,Qm,Qn,true_and,and_true,Qo,Qp,Qq,Qr,Qs,Qt,Qu,Qv,Qw,Qx,Qy,Qz,Ra,Rb,Rc,Rd,Re,Rf,Rg,Rh,Ri,Rj,Rk,Rl,Rm,Ya,Yb,Yc,Rn,Ro,Rp,Yd,Ye,Rq,Rs,Rt,Ru,Rv,Rw,Rx]
  refine hs1.mono ?_
  rintro _ s2 ⟨c,v2,rfl,i2,_,hc,g2,k2⟩
  have hc1:c=1:=by
    rcases hc with⟨_,q⟩ | ⟨q,_⟩ | ⟨_,q,_⟩
    · exact absurd (fun f hf=>by cases hf) (q fun _=>true)
    · exact q
    · exact absurd (q (by decide)) (by decide)
  subst hc1
  rw[setV_set]at g2
  have hd1:decide ((1:Int)≠1)=false:=by decide
  simp only[hd1,c37o4,bld_pair,hms,Qa,Qb,Qc,Qd,Qe,Qf,Qg,Qh,Qi,Qj,Qk,Ql,Qm,Qn,true_and,and_true,Qo,Qp,Qq,Qr,Qs,Qt,Qu,Qv,Qw,Qx,Qy,Qz,Ra,Rb,Rc,Rd,Re,Rf,Rg,Rh,Ri,Rj,Rk,Rl,Rm,Ya,Yb,Yc,Rn,Ro,Rp,Yd,Ye,Rq,Rs,Rt,Ru,Rv,Rw,Rx]
  refine add_pair hE g2 (setV_same V p v2) i2 (bd _ _ (by decide)) 1 2 w1 w2 ?_
  intro s3 v3 i3 g3 k3
  rw[setV_set]at g3
  simp only[c37o5,bld_pair,hms,Qa,Qb,Qc,Qd,Qe,Qf,Qg,Qh,Qi,Qj,Qk,Ql,Qm,Qn,true_and,and_true,Qo,Qp,Qq,Qr,Qs,Qt,Qu,Qv,Qw,Qx,Qy,Qz,Ra,Rb,Rc,Rd,Re,Rf,Rg,Rh,Ri,Rj,Rk,Rl,Rm,Ya,Yb,Yc,Rn,Ro,Rp,Yd,Ye,Rq,Rs,Rt,Ru,Rv,Rw,Rx]
  refine add_pair hE g3 (setV_same V p v3) i3 (bd _ _ (by decide)) (-1) 2 w3 w2 ?_
  intro s4 v4 i4 g4 k4
  rw[setV_set]at g4
  simp only[c37o6,bld_pair,hms,Qa,Qb,Qc,Qd,Qe,Qf,Qg,Qh,Qi,Qj,Qk,Ql,Qm,Qn,true_and,and_true,Qo,Qp,Qq,Qr,Qs,Qt,Qu,Qv,Qw,Qx,Qy,Qz,Ra,Rb,Rc,Rd,Re,Rf,Rg,Rh,Ri,Rj,Rk,Rl,Rm,Ya,Yb,Yc,Rn,Ro,Rp,Yd,Ye,Rq,Rs,Rt,Ru,Rv,Rw,Rx]
  refine add_pair hE g4 (setV_same V p v4) i4 (bd _ _ (by decide)) 1 (-2) w1 w4 ?_
  intro s5 v5 i5 g5 k5
  rw[setV_set]at g5
  have hs2:=sols_solve hE g5 (setV_same V p v5) i5 (bd _ _ (by decide)) (most:=729) (by decide) (by simp;exact⟨⟨w1,w2⟩,⟨w3,w2⟩,w1,w4⟩)
  simp only[ptrA]at hs2
  simp only[c37o7,Qa,Qb,Qc,Qd,Qe,Qf,Qg,Qh,Qi,Qj,Qk,Ql,Qm,Qn,true_and,and_true,Qo,Qp,Qq,Qr,Qs,Qt,Qu,Qv,Qw,Qx,Qy,Qz,Ra,Rb,Rc,Rd,Re,Rf,Rg,Rh,Ri,Rj,Rk,Rl,Rm,Ya,Yb,Yc,Rn,Ro,Rp,Yd,Ye,Rq,Rs,Rt,Ru,Rv,Rw,Rx]
  refine hs2.mono ?_
  rintro _ s6 ⟨c,v6,rfl,i6,_,hc,g6,k6⟩
  have hc1:c=1∧v6.model.length=2+1∧Models (tells v6.model) [[1,2],[-1,2],[1,-2]]:=by
    rcases hc with⟨_,q⟩ | ⟨q1,q2,q3⟩ | ⟨_,q,_⟩
    · exact absurd (models4.2 ⟨rfl,rfl⟩) (q fun _=>true)
    · exact⟨q1,q2,q3⟩
    · exact absurd (q (by decide)) (by decide)
  obtain⟨rfl,hml,hmm⟩:=hc1
  obtain⟨t1,t2⟩:=models4.1 hmm
  rw[setV_set]at g6
  have hv1:=sols_value hE g6 (setV_same V p v6) (k:=1) (by decide)
  have hv2:=sols_value hE g6 (setV_same V p v6) (k:=2) (by decide)
  have ev1:iv ((1:Nat):Int)=iv 1:=rfl
  simp only[ptrA,ev1,t1]at hv1
  simp only[ptrA,e2,t2]at hv2
  simp only[decide_true,Qa,Qb,Qc,Qd,Qe,Qf,Qg,Qh,Qi,Qj,Qk,Ql,Qm,Qn,true_and,and_true,Qo,Qp,Qq,Qr,Qs,Qt,Qu,Qv,Qw,Qx,Qy,Qz,Ra,Rb,Rc,Rd,Re,Rf,Rg,Rh,Ri,Rj,Rk,Rl,Rm,Ya,Yb,Yc,Rn,Ro,Rp,Yd,Ye,Rq,Rs,Rt,Ru,Rv,Rw,Rx]
  refine hv1.mono ?_
  rintro _ _ ⟨rfl,rfl⟩
  simp only[Qa,Qb,Qc,Qd,Qe,Qf,Qg,Qh,Qi,Qj,Qk,Ql,Qm,Qn,true_and,and_true,Qo,Qp,Qq,Qr,Qs,Qt,Qu,Qv,Qw,Qx,Qy,Qz,Ra,Rb,Rc,Rd,Re,Rf,Rg,Rh,Ri,Rj,Rk,Rl,Rm,Ya,Yb,Yc,Rn,Ro,Rp,Yd,Ye,Rq,Rs,Rt,Ru,Rv,Rw,Rx]
  refine hv2.mono ?_
  rintro _ _ ⟨rfl,rfl⟩
  simp only[c37o8,bld_pair,hms,Qa,Qb,Qc,Qd,Qe,Qf,Qg,Qh,Qi,Qj,Qk,Ql,Qm,Qn,true_and,and_true,Qo,Qp,Qq,Qr,Qs,Qt,Qu,Qv,Qw,Qx,Qy,Qz,Ra,Rb,Rc,Rd,Re,Rf,Rg,Rh,Ri,Rj,Rk,Rl,Rm,Ya,Yb,Yc,Rn,Ro,Rp,Yd,Ye,Rq,Rs,Rt,Ru,Rv,Rw,Rx]
  refine add_pair hE g6 (setV_same V p v6) i6 (bd _ _ (by decide)) (-1) (-2) w3 w4 ?_
  intro s7 v7 i7 g7 k7
  rw[setV_set]at g7
  simp only[c37o9,Qa,Qb,Qc,Qd,Qe,Qf,Qg,Qh,Qi,Qj,Qk,Ql,Qm,Qn,true_and,and_true,Qo,Qp,Qq,Qr,Qs,Qt,Qu,Qv,Qw,Qx,Qy,Qz,Ra,Rb,Rc,Rd,Re,Rf,Rg,Rh,Ri,Rj,Rk,Rl,Rm,Ya,Yb,Yc,Rn,Ro,Rp,Yd,Ye,Rq,Rs,Rt,Ru,Rv,Rw,Rx]
  refine(sols_new hE g7 (n:=0) (by decide)).mono ?_
  rintro _ s8 ⟨vb,rfl,hVb,g8,k8,i8,_⟩
  generalize hpb:s7.next=q at *
  have hpq:p≠q:=fun e=>by rw[← e,setV_same]at hVb;cases hVb
  have bd0:∀A M,A≤10→Bd 0 A M:=fun A M hA=>⟨by decide,by omega,.inl (by decide)⟩
  have hadd:=sols_add hE g8 (setV_same _ q vb) i8 (bd0 _ _ (by decide)) (f:=[]) (by simp) (by simp) (b:=0) (u:=.slice none 0 (some 0)) (Nat.zero_le _) ⟨none,some 0,rfl,CellsAt.nil⟩ (fun j hj=>by cases hj)
  simp only[ptrA]at hadd
  simp only[c37o10,Qa,Qb,Qc,Qd,Qe,Qf,Qg,Qh,Qi,Qj,Qk,Ql,Qm,Qn,true_and,and_true,Qo,Qp,Qq,Qr,Qs,Qt,Qu,Qv,Qw,Qx,Qy,Qz,Ra,Rb,Rc,Rd,Re,Rf,Rg,Rh,Ri,Rj,Rk,Rl,Rm,Ya,Yb,Yc,Rn,Ro,Rp,Yd,Ye,Rq,Rs,Rt,Ru,Rv,Rw,Rx]
  refine hadd.mono ?_
  rintro _ s9 ⟨rfl,v9,i9,_,g9,k9⟩
  rw[setV_set]at g9
  have hpV:setV (setV V p v7) q v9 p=some v7:=by rw[setV_ne hpq];exact setV_same _ _ _
  have hs3:=sols_solve hE g9 hpV i7 (bd _ _ (by decide)) (most:=729) (by decide) (by simp;exact⟨⟨w1,w2⟩,⟨w3,w2⟩,⟨w1,w4⟩,w3,w4⟩)
  simp only[ptrA]at hs3
  simp only[c37o11,Qa,Qb,Qc,Qd,Qe,Qf,Qg,Qh,Qi,Qj,Qk,Ql,Qm,Qn,true_and,and_true,Qo,Qp,Qq,Qr,Qs,Qt,Qu,Qv,Qw,Qx,Qy,Qz,Ra,Rb,Rc,Rd,Re,Rf,Rg,Rh,Ri,Rj,Rk,Rl,Rm,Ya,Yb,Yc,Rn,Ro,Rp,Yd,Ye,Rq,Rs,Rt,Ru,Rv,Rw,Rx]
  refine hs3.mono ?_
  rintro _ s10 ⟨c,v10,rfl,_,_,hc,g10,k10⟩
  have hc0:c=0:=by
    rcases hc with⟨q,_⟩ | ⟨_,_,q⟩ | ⟨_,q,_⟩
    · exact q
    · exact absurd q models5
    · exact absurd (q (by decide)) (by decide)
  subst hc0
  have hqV:setV (setV (setV V p v7) q v9) p v10 q=some v9:=by rw[setV_ne (fun e=>hpq e.symm)];exact setV_same _ _ _
  have hs4:=sols_solve hE g10 hqV i9 (bd0 _ _ (by decide)) (most:=0) (by decide) (by simp)
  have e0:iv ((0:Nat):Int)=iv 0:=rfl
  simp only[ptrA,e0]at hs4
  simp only[decide_true,Qa,Qb,Qc,Qd,Qe,Qf,Qg,Qh,Qi,Qj,Qk,Ql,Qm,Qn,true_and,and_true,Qo,Qp,Qq,Qr,Qs,Qt,Qu,Qv,Qw,Qx,Qy,Qz,Ra,Rb,Rc,Rd,Re,Rf,Rg,Rh,Ri,Rj,Rk,Rl,Rm,Ya,Yb,Yc,Rn,Ro,Rp,Yd,Ye,Rq,Rs,Rt,Ru,Rv,Rw,Rx]
  refine hs4.mono ?_
  rintro _ s11 ⟨c,v11,rfl,_,_,hc,g11,k11⟩
  have hc0:c=0:=by
    rcases hc with⟨q,_⟩ | ⟨_,_,q⟩ | ⟨_,_,q⟩
    · exact q
    · obtain⟨y,hy,_⟩:=q [] (by simp)
      cases hy
    · exact absurd (by simp) q
  subst hc0
  simp only[decide_true,Qa,Qb,Qc,Qd,Qe,Qf,Qg,Qh,Qi,Qj,Qk,Ql,Qm,Qn,true_and,and_true,Qo,Qp,Qq,Qr,Qs,Qt,Qu,Qv,Qw,Qx,Qy,Qz,Ra,Rb,Rc,Rd,Re,Rf,Rg,Rh,Ri,Rj,Rk,Rl,Rm,Ya,Yb,Yc,Rn,Ro,Rp,Yd,Ye,Rq,Rs,Rt,Ru,Rv,Rw,Rx]
  exact((((((((((k1.trans k2).trans k3).trans k4).trans k5).trans k6).trans k7).trans k8).trans k9).trans k10).trans k11)
def u16(n:Int):Prop:=0≤n∧n≤65535
theorem Drawn.fits{n:Nat}{cs:List (List Int)}(h:Drawn n cs):(∀L∈cs,(∀x∈L,VL n x)∧L.length≤12)∧(∀L∈cs,(∀x∈L,VL n x)∧L.length≤1000000)∧∀f∈cs,∀y∈f,VL n y:=
  ⟨fun L hL=>⟨(h L hL).1,by have:=(h L hL).2;omega⟩,fun L hL=>⟨(h L hL).1,by have:=(h L hL).2;omega⟩,fun f hf=>(h f hf).1⟩
theorem vars_drawn{s:ASt}{d:Int}(hd:u8 d){k:Int}(hk:0<k∧k≤100):∃n:Nat,1≤n∧n≤k.toNat∧binA Try.prog .rem 5 (u8v d) (u8v k)=some (u8v (d % k))∧convA Try.prog s 5 3 (u8v (d % k))=some (iv (d % k))∧binA Try.prog .add 3 (iv 1) (iv (d % k))=some (iv (n:Int)):=by
  obtain⟨h1,h2⟩:=hd
  have r1:=Int.emod_nonneg d (show k≠0 by omega)
  have r2:=Int.emod_lt_of_pos d (show(0:Int)<k by omega)
  refine⟨(1+d % k).toNat,by omega,by omega,bin_rem (P:=Try.prog) (t:=5) (k:=.u8) h1 (by omega),conv_u8 ⟨by omega,by omega⟩,?_⟩
  rw[bin_add Try.prog 3 1 (d % k) ⟨by omega,by omega⟩]
  congr 2
  omega
theorem arg_int{t:TypeId}{k:IntKind}(ht:Try.prog.underlying t=some (.int k)){W:World}{base:Nat}{v:Value}(h:Value.okWide Try.prog W .any base t v){ρ:Rho}{a:AV}(hr:VRels ρ [a] v.cells.toList):VRel ρ a v:=by
  have hv:v.cells.toList=[v]:=by
    cases v with
    | agg cs=>simp[Value.okWide,ht,Cell.okWide,Cell.ok]at h
    | _=>rfl
  rw[hv]at hr
  cases hr with
  | cons h _=>exact h
section
variable{H:Type}{enc:TypeId×Value→H}{W:World}{base:Nat}
theorem enter_ub{v0 v1:Value}(h0:Value.okWide Try.prog W .any base 5 v0)(h1:Value.okWide Try.prog W .any base 42 v1)
    {d0 d1:DataW H} {p0 p1:List MemPlace} (t0:DataW.Trod enc Try.prog W 0 (fun _=>true) true 5 v0 d0 p0) (t1:DataW.Trod enc Try.prog W 0 (fun _=>true) true 42 v1 d1 p1):
    ∃ (ρ:Rho) (s:ASt) (d:Int) (u:AV) (bs:List Int),Door Try.prog W ρ s∧VRel ρ (u8v d) v0∧VRel ρ u v1∧u8 d∧SliceAt s.next s u (u8vs bs)∧U8s bs∧bs.length<9223372036854775808:=by
  obtain⟨n0,t0⟩:=t0
  obtain⟨n1,t1⟩:=t1
  obtain⟨ρ1,s1,us1,d,g1,g2,g3,g4,rfl,g5⟩:=enter_num (q:=u8) Try.underlying5 (fun n h=>wf_u8 h) n0 _ _ t0 _ _ (door0 Try.prog W)
  obtain⟨ρ2,s2,us2,bs,k1,k2,k3,k4,k5⟩:=enter_nums (q:=u8) Try.underlying42 Try.underlying5 co5 (fun n h=>wf_u8 h) t1 (fun a ha=>size_pos Try.underlying42 h1 a ha) g1
  obtain⟨u,rfl,q1,q2,q3⟩:=sliceIn_at k5
  exact⟨ρ2,s2,d,u,bs,k1,arg_int Try.underlying5 h0 (g4.mono k2),arg_rel Try.underlying42 h1 k4,g5,q1,q2,q3⟩
end
theorem Keep.toOld{b:Nat}{s s':ASt}(h:Keep (fun j=>j<s.next) s s')(hb:b≤s.next):Old b s s':=⟨h.1,fun j hj=>h.2 j (Nat.lt_of_lt_of_le hj hb)⟩
theorem Old.toKeep{s s':ASt}(h:Old s.next s s'):Keep (fun j=>j<s.next) s s':=⟨h.1,fun j hj=>h.2 j hj⟩
def Told(n:Nat)(F:List (List Int))(σ0:Nat→Bool)(c:Int):Prop:=(c=0∧∀σ,¬ Models σ F)∨(c=1∧Models σ0 F)
theorem told_more {n : Nat} {F : List (List Int)} {σ0 : Nat → Bool} {c c' : Int} {L : List Int} {v : Sv} (h : Told n F σ0 c) (hL : c = 1 → ∃ y ∈ L, Sat σ0 y) (hn : n ≤ 6)
    (hc:c'=0∧(∀σ,¬ Models σ (F++[L]))∨c'=1∧v.model.length=n+1∧Models (tells v.model) (F++[L])∨c'=2∧(n≤6→729<729)∧[] ∉ F++[L]):c'=c∧Told n (F++[L]) σ0 c:=by
  have hless:∀σ,Models σ (F++[L])→Models σ F:=fun σ hm f hf=>hm f (List.mem_append_left _ hf)
  rcases h with⟨rfl,h⟩ | ⟨rfl,h⟩
  · rcases hc with ⟨e, q⟩ | ⟨_, _, q⟩ | ⟨_, q, _⟩
    · exact⟨e,.inl ⟨rfl,q⟩⟩
    · exact absurd (hless _ q) (h _)
    · exact absurd (q hn) (by decide)
  · have hm:Models σ0 (F++[L]):=fun f hf=>by
      rcases List.mem_append.1 hf with q | q
      · exact h f q
      · rw[List.mem_singleton.1 q]
        exact hL rfl
    rcases hc with⟨_,q⟩ | ⟨e,_,_⟩ | ⟨_,q,_⟩
    · exact absurd hm (q _)
    · exact⟨e,.inr ⟨rfl,hm⟩⟩
    · exact absurd (q hn) (by decide)
theorem stays_loop {E : Env} (hE : Good E) {B : Nat → Prop} {s0 : ASt} {V : Nat → Option Sv} {n p : Nat} (hn : n ≤ 6) {ms : List (List Int)} (hdr : Drawn n ms) (hlen : ms.length ≤ 40) {u : AV} (hr : RowsIn B s0 u ms) {t : Nat → Bool} {c : Int} (v0 v1 v2 v3 v5 x11 x12 : AV) {Q : ARes → Prop}
    (hq:∀s' v F A M y10 y13 y14 y15,Sols B s' (setV V p v)→Keep B s0 s'→SI n A F M v→A≤1000→(∀f∈F,∀y∈f,VL n y)→Told n F t c→Q ⟨.exit 0,[v0,v1,v2,v3,iv (n:Int),v5,u,ptrA p,iv c,iv (bitsN t n:Int),y10,x11,x12,y13,y14,y15],[],s'⟩):
    ∀ (l:List (List Int)) (k:Nat) (s:ASt) (v:Sv) (F:List (List Int)) (A M:Nat) (x13 x14 x15:AV),ms.drop k=l→k≤ms.length→Sols B s (setV V p v)→Keep B s0 s→SI n A F M v→A≤100+k→(∀f∈F,∀y∈f,VL n y)→Told n F t c →
      WC E none (.loop c8l16) Q [v0,v1,v2,v3,iv (n:Int),v5,u,ptrA p,iv c,iv (bitsN t n:Int),iv (k:Int),x11,x12,x13,x14,x15] [] s:=by
  obtain⟨f1,f2,f3⟩:=hdr.fits
  have h3:3 ^ n≤1900:=Nat.le_trans (Nat.pow_le_pow_right (by decide) hn) (by decide)
  have hb50:bitsN t n<1152921504606846976:=Nat.lt_trans (bitsN_lt _ n) (pow50 (by omega))
  intro l
  induction l with
  | nil =>
    intro k s v F A M x13 x14 x15 hd hk hS hK hI hA hF hT
    have:=drop_end hd hk
    subst this
    have hr':=hr.keep hK
    refine WC.loop' ?_
    simp only[c8l16,c8o11,hr'.len,Int.lt_irrefl,decide_false,Qa,Qb,Qc,Qd,Qe,Qf,Qg,Qh,Qi,Qj,Qk,Ql,Qm,Qn,true_and,and_true,Qo,Qp,Qq,Qr,Qs,Qt,Qu,Qv,Qw,Qx,Qy,Qz,Ra,Rb,Rc,Rd,Re,Rf,Rg,Rh,Ri,Rj,Rk,Rl,Rm,Ya,Yb,Yc,Rn,Ro,Rp,Yd,Ye,Rq,Rs,Rt,Ru,Rv,Rw,Rx]
    exact hq _ v F A M _ _ _ _ hS hK hI (by omega) hF hT
  | cons L l ih =>
    intro k s v F A M x13 x14 x15 hd hk hS hK hI hA hF hT
    obtain⟨hlt,hx,hd'⟩:=drop_facts hd
    have hr':=hr.keep hK
    obtain⟨a,w,e1,e2,hu,hB⟩:=hr'.row hx
    have hkk:decide ((k:Int)<(ms.length:Int))=true:=decide_eq_true (by omega)
    have e3:=bin_add Try.prog 3 (k:Int) 1 ⟨by omega,by omega⟩
    have hcast:((k:Int)+1)=((k+1:Nat):Int):=by omega
    obtain⟨h6,h7⟩:=f1 L (List.mem_of_getElem? hx)
    have hd1:decide ((1:Int)≠1)=false:=by decide
    have hd2:decide ((0:Int)≠0)=false:=by decide
    have hd3:decide ((0:Int)=1)=false:=by decide
    have hF':∀f∈F++[L],∀y∈f,VL n y:=fun f hf=>by
      rcases List.mem_append.1 hf with q | q
      · exact hF f q
      · rw[List.mem_singleton.1 q];exact h6
    have e729:iv ((729:Nat):Int)=iv 729:=rfl
    have hadd:=sols_add hE hS (setV_same V p v) hI (hbd:=⟨by omega,by omega,.inl h3⟩) h6 h7 (Nat.le_refl _) hu hB
    have hhold:=holdsN_ok hE hb50 (by omega) h6 (show L.length≤1000000 by omega) hu
    simp only[ptrA]at hadd
    refine WC.loop' ?_
    generalize hW:WC E none (CCode.loop c8l16) Q=W at ih ⊢
    have hdc:decide (c≠c)=false:=by simp
    rcases hT with⟨rfl,h0⟩ | ⟨rfl,h0⟩
    · have hT:Told n F t 0:=.inl ⟨rfl,h0⟩
      simp only[c8l16,c8o11,hr'.len,hkk,c8o12,hd3,Qa,Qb,Qc,Qd,Qe,Qf,Qg,Qh,Qi,Qj,Qk,Ql,Qm,Qn,true_and,and_true,Qo,Qp,Qq,Qr,Qs,Qt,Qu,Qv,Qw,Qx,Qy,Qz,Ra,Rb,Rc,Rd,Re,Rf,Rg,Rh,Ri,Rj,Rk,Rl,Rm,Ya,Yb,Yc,Rn,Ro,Rp,Yd,Ye,Rq,Rs,Rt,Ru,Rv,Rw,Rx]
      simp only[c8o13,e1,e2,ptrA,Qa,Qb,Qc,Qd,Qe,Qf,Qg,Qh,Qi,Qj,Qk,Ql,Qm,Qn,true_and,and_true,Qo,Qp,Qq,Qr,Qs,Qt,Qu,Qv,Qw,Qx,Qy,Qz,Ra,Rb,Rc,Rd,Re,Rf,Rg,Rh,Ri,Rj,Rk,Rl,Rm,Ya,Yb,Yc,Rn,Ro,Rp,Yd,Ye,Rq,Rs,Rt,Ru,Rv,Rw,Rx]
      refine hadd.mono ?_
      rintro _ s1 ⟨rfl,v1,i1,_,g1,k1⟩
      rw[setV_set]at g1
      have hs:=sols_solve hE g1 (setV_same V p v1) i1 (hbd:=⟨by omega,by omega,.inl h3⟩) (most:=729) (by decide) hF'
      simp only[ptrA,e729]at hs
      simp only[hd2,Qa,Qb,Qc,Qd,Qe,Qf,Qg,Qh,Qi,Qj,Qk,Ql,Qm,Qn,true_and,and_true,Qo,Qp,Qq,Qr,Qs,Qt,Qu,Qv,Qw,Qx,Qy,Qz,Ra,Rb,Rc,Rd,Re,Rf,Rg,Rh,Ri,Rj,Rk,Rl,Rm,Ya,Yb,Yc,Rn,Ro,Rp,Yd,Ye,Rq,Rs,Rt,Ru,Rv,Rw,Rx]
      refine hs.mono ?_
      rintro _ s2 ⟨c',v2,rfl,i2,_,hc,g2,k2⟩
      rw[setV_set]at g2
      obtain⟨rfl,hT'⟩:=told_more hT (fun q=>by cases q) hn hc
      simp only[hdc,c8o15,e3,hcast,Qa,Qb,Qc,Qd,Qe,Qf,Qg,Qh,Qi,Qj,Qk,Ql,Qm,Qn,true_and,and_true,Qo,Qp,Qq,Qr,Qs,Qt,Qu,Qv,Qw,Qx,Qy,Qz,Ra,Rb,Rc,Rd,Re,Rf,Rg,Rh,Ri,Rj,Rk,Rl,Rm,Ya,Yb,Yc,Rn,Ro,Rp,Yd,Ye,Rq,Rs,Rt,Ru,Rv,Rw,Rx]
      subst hW
      exact ih (k+1) s2 v2 (F++[L]) (A+1) (M+729) _ _ _ hd' hlt g2 ((hK.trans k1).trans k2) i2 (by omega) hF' hT'
    · have hT:Told n F t 1:=.inr ⟨rfl,h0⟩
      simp only[c8l16,c8o11,hr'.len,hkk,c8o12,decide_true,e1,e2,Qa,Qb,Qc,Qd,Qe,Qf,Qg,Qh,Qi,Qj,Qk,Ql,Qm,Qn,true_and,and_true,Qo,Qp,Qq,Qr,Qs,Qt,Qu,Qv,Qw,Qx,Qy,Qz,Ra,Rb,Rc,Rd,Re,Rf,Rg,Rh,Ri,Rj,Rk,Rl,Rm,Ya,Yb,Yc,Rn,Ro,Rp,Yd,Ye,Rq,Rs,Rt,Ru,Rv,Rw,Rx]
      refine hhold.mono ?_
      rintro _ _ ⟨rfl,rfl⟩
      cases hh:holdsN (bitsN t n) L with
      | false =>
        simp only[c8o15,e3,hcast,Qa,Qb,Qc,Qd,Qe,Qf,Qg,Qh,Qi,Qj,Qk,Ql,Qm,Qn,true_and,and_true,Qo,Qp,Qq,Qr,Qs,Qt,Qu,Qv,Qw,Qx,Qy,Qz,Ra,Rb,Rc,Rd,Re,Rf,Rg,Rh,Ri,Rj,Rk,Rl,Rm,Ya,Yb,Yc,Rn,Ro,Rp,Yd,Ye,Rq,Rs,Rt,Ru,Rv,Rw,Rx]
        subst hW
        exact ih (k+1) s v F A M _ _ _ hd' hlt hS hK hI (by omega) hF hT
      | true =>
        have hsat:=(holdsN_bits h6).1 hh
        simp only[Qa,Qb,Qc,Qd,Qe,Qf,Qg,Qh,Qi,Qj,Qk,Ql,Qm,Qn,true_and,and_true,Qo,Qp,Qq,Qr,Qs,Qt,Qu,Qv,Qw,Qx,Qy,Qz,Ra,Rb,Rc,Rd,Re,Rf,Rg,Rh,Ri,Rj,Rk,Rl,Rm,Ya,Yb,Yc,Rn,Ro,Rp,Yd,Ye,Rq,Rs,Rt,Ru,Rv,Rw,Rx]
        simp only[c8o13,e1,e2,ptrA,Qa,Qb,Qc,Qd,Qe,Qf,Qg,Qh,Qi,Qj,Qk,Ql,Qm,Qn,true_and,and_true,Qo,Qp,Qq,Qr,Qs,Qt,Qu,Qv,Qw,Qx,Qy,Qz,Ra,Rb,Rc,Rd,Re,Rf,Rg,Rh,Ri,Rj,Rk,Rl,Rm,Ya,Yb,Yc,Rn,Ro,Rp,Yd,Ye,Rq,Rs,Rt,Ru,Rv,Rw,Rx]
        refine hadd.mono ?_
        rintro _ s1 ⟨rfl,v1,i1,_,g1,k1⟩
        rw[setV_set]at g1
        have hs:=sols_solve hE g1 (setV_same V p v1) i1 (hbd:=⟨by omega,by omega,.inl h3⟩) (most:=729) (by decide) hF'
        simp only[ptrA,e729]at hs
        simp only[hd2,Qa,Qb,Qc,Qd,Qe,Qf,Qg,Qh,Qi,Qj,Qk,Ql,Qm,Qn,true_and,and_true,Qo,Qp,Qq,Qr,Qs,Qt,Qu,Qv,Qw,Qx,Qy,Qz,Ra,Rb,Rc,Rd,Re,Rf,Rg,Rh,Ri,Rj,Rk,Rl,Rm,Ya,Yb,Yc,Rn,Ro,Rp,Yd,Ye,Rq,Rs,Rt,Ru,Rv,Rw,Rx]
        refine hs.mono ?_
        rintro _ s2 ⟨c',v2,rfl,i2,_,hc,g2,k2⟩
        rw[setV_set]at g2
        obtain⟨rfl,hT'⟩:=told_more hT (fun _=>hsat) hn hc
        simp only[hdc,c8o15,e3,hcast,Qa,Qb,Qc,Qd,Qe,Qf,Qg,Qh,Qi,Qj,Qk,Ql,Qm,Qn,true_and,and_true,Qo,Qp,Qq,Qr,Qs,Qt,Qu,Qv,Qw,Qx,Qy,Qz,Ra,Rb,Rc,Rd,Re,Rf,Rg,Rh,Ri,Rj,Rk,Rl,Rm,Ya,Yb,Yc,Rn,Ro,Rp,Yd,Ye,Rq,Rs,Rt,Ru,Rv,Rw,Rx]
        subst hW
        exact ih (k+1) s2 v2 (F++[L]) (A+1) (M+729) _ _ _ hd' hlt g2 ((hK.trans k1).trans k2) i2 (by omega) hF' hT'
theorem stays_ok{E:Env}(hE:Good E){s:ASt}{b:Nat}(hb:b≤s.next){d:Int}(hd:u8 d){xs bs:List Int}(has:U8s xs)(halen:xs.length<9223372036854775808)(hbs:U8s bs)(hlen:bs.length<9223372036854775808){w v:AV}(hw:SliceAt b s w (u8vs xs))(hv:SliceAt b s v (u8vs bs)):
    WF E 8 [u8v d,w,v] (fun r _=>r=.bool true) s:=by
  obtain⟨n,hn1,hn2,q1,q2,q3⟩:=vars_drawn (s:=s) hd (k:=6) (by decide)
  have hn2:n≤6:=hn2
  have h3:3 ^ n≤1900:=Nat.le_trans (Nat.pow_le_pow_right (by decide) hn2) (by decide)
  have hconv:∀s,convA Try.prog s 5 3 (u8v (d % 6))=some (iv (d % 6)):=fun s=>conv_u8 ⟨Int.emod_nonneg d (by decide),by have:=Int.emod_lt_of_pos d (show(0:Int)<6 by decide);omega⟩
  refine hE.go comp8 (by decide) rfl ?_
  simp only[c8,c8o0,c8o1,Qa,Qb,Qc,Qd,Qe,Qf,Qg,Qh,Qi,Qj,Qk,Ql,Qm,Qn,true_and,and_true,Qo,Qp,Qq,Qr,Qs,Qt,Qu,Qv,Qw,Qx,Qy,Qz,Ra,Rb,Rc,Rd,Re,Rf,Rg,Rh,Ri,Rj,Rk,Rl,Rm,Ya,Yb,Yc,Rn,Ro,Rp,Yd,Ye,Rq,Rs,Rt,Ru,Rv,Rw,Rx]
  refine(works_ok hE (sols_none s)).mono ?_
  rintro _ s1 ⟨rfl,k1⟩
  have ho1:=k1.toOld hb
  simp only[c8o3,q1,hconv,q3,c8o4,Qa,Qb,Qc,Qd,Qe,Qf,Qg,Qh,Qi,Qj,Qk,Ql,Qm,Qn,true_and,and_true,Qo,Qp,Qq,Qr,Qs,Qt,Qu,Qv,Qw,Qx,Qy,Qz,Ra,Rb,Rc,Rd,Re,Rf,Rg,Rh,Ri,Rj,Rk,Rl,Rm,Ya,Yb,Yc,Rn,Ro,Rp,Yd,Ye,Rq,Rs,Rt,Ru,Rv,Rw,Rx]
  refine(drawn_ok hE (Nat.le_trans hb k1.1) hn1 (by omega) (most:=40) (by decide) has halen (hw.old ho1 (Nat.le_refl _))).mono ?_
  rintro l s2 ⟨us,cs,O,hmd,hdr,hcl,ho2⟩
  simp only[Qa,Qb,Qc,Qd,Qe,Qf,Qg,Qh,Qi,Qj,Qk,Ql,Qm,Qn,true_and,and_true,Qo,Qp,Qq,Qr,Qs,Qt,Qu,Qv,Qw,Qx,Qy,Qz,Ra,Rb,Rc,Rd,Re,Rf,Rg,Rh,Ri,Rj,Rk,Rl,Rm,Ya,Yb,Yc,Rn,Ro,Rp,Yd,Ye,Rq,Rs,Rt,Ru,Rv,Rw,Rx]
  refine(drawn_ok hE (Nat.le_trans hb (Nat.le_trans k1.1 ho2.1)) hn1 (by omega) (most:=40) (by decide) hbs hlen ((hv.old ho1 (Nat.le_refl _)).old (ho2.mono (Nat.le_trans hb k1.1)) (Nat.le_refl _))).mono ?_
  rintro l2 s3 ⟨us2,ms,O2,hmd2,hdr2,hcl2,ho3⟩
  have hR:=(hmd.rowsIn.keep ho3.toKeep).more (B':=fun j=>j<s3.next) fun j hj=>Nat.lt_of_lt_of_le hj ho3.1
  have hR2:=hmd2.rowsIn
  obtain⟨f1,f2,f3⟩:=hdr.fits
  simp only[c8o5,Qa,Qb,Qc,Qd,Qe,Qf,Qg,Qh,Qi,Qj,Qk,Ql,Qm,Qn,true_and,and_true,Qo,Qp,Qq,Qr,Qs,Qt,Qu,Qv,Qw,Qx,Qy,Qz,Ra,Rb,Rc,Rd,Re,Rf,Rg,Rh,Ri,Rj,Rk,Rl,Rm,Ya,Yb,Yc,Rn,Ro,Rp,Yd,Ye,Rq,Rs,Rt,Ru,Rv,Rw,Rx]
  refine(of32_ok hE (sols_none s3) (n:=n) (by omega) f1 (by omega) hR).mono ?_
  rintro _ s4 ⟨p,vp,rfl,_,g4,k4,i4,m4⟩
  have he:=eq_ptr44 p
  have e729:iv ((729:Nat):Int)=iv 729:=rfl
  have e0:iv ((0:Nat):Int)=iv 0:=rfl
  have hs:=sols_solve hE g4 (setV_same _ p vp) i4 (hbd:=⟨by omega,by omega,.inl h3⟩) (most:=729) (by decide) f3
  simp only[ptrA,e729]at hs he
  simp only[c8o6,ptrA,he,c8o8,Qa,Qb,Qc,Qd,Qe,Qf,Qg,Qh,Qi,Qj,Qk,Ql,Qm,Qn,true_and,and_true,Qo,Qp,Qq,Qr,Qs,Qt,Qu,Qv,Qw,Qx,Qy,Qz,Ra,Rb,Rc,Rd,Re,Rf,Rg,Rh,Ri,Rj,Rk,Rl,Rm,Ya,Yb,Yc,Rn,Ro,Rp,Yd,Ye,Rq,Rs,Rt,Ru,Rv,Rw,Rx]
  refine hs.mono ?_
  rintro _ s5 ⟨c,v5,rfl,i5,_,hc,g5,k5⟩
  rw[setV_set]at g5
  have hT:Told n cs (tells v5.model) c:=by
    rcases hc with⟨e,q⟩ | ⟨e,_,q⟩ | ⟨_,q,_⟩
    · exact .inl ⟨e,q⟩
    · exact .inr ⟨e,q⟩
    · exact absurd (q hn2) (by decide)
  have hbits:=bits_ok hE g5 (setV_same _ p v5) (n:=n) (by omega)
  simp only[ptrA]at hbits
  simp only[c8o9,Qa,Qb,Qc,Qd,Qe,Qf,Qg,Qh,Qi,Qj,Qk,Ql,Qm,Qn,true_and,and_true,Qo,Qp,Qq,Qr,Qs,Qt,Qu,Qv,Qw,Qx,Qy,Qz,Ra,Rb,Rc,Rd,Re,Rf,Rg,Rh,Ri,Rj,Rk,Rl,Rm,Ya,Yb,Yc,Rn,Ro,Rp,Yd,Ye,Rq,Rs,Rt,Ru,Rv,Rw,Rx]
  refine hbits.mono ?_
  rintro _ _ ⟨rfl,rfl⟩
  have hloop:=stays_loop hE (V:=fun _=>none) (p:=p) hn2 hdr2 hcl2 ((hR2.keep k4).keep k5) (t:=tells v5.model) (c:=c) (u8v d) w v (.bool false) l (.bool false) (.bool false)
    (Q:=InBlock 0 (seqK (Qa E none (.seq (.ops c8o17) .ret) (Ends Try.prog c8.results (fun r _=>r=.bool true))) (Ends Try.prog c8.results (fun r _=>r=.bool true)))) ?_ ms 0 s5 v5 cs cs.length (0+729) undefA undefA undefA rfl (Nat.zero_le _) g5 (Keep.refl _ _) i5 (by omega) f3 hT
  · simp only [ptrA] at hloop
    simp only[c8o10,Qa,Qb,Qc,Qd,Qe,Qf,Qg,Qh,Qi,Qj,Qk,Ql,Qm,Qn,true_and,and_true,Qo,Qp,Qq,Qr,Qs,Qt,Qu,Qv,Qw,Qx,Qy,Qz,Ra,Rb,Rc,Rd,Re,Rf,Rg,Rh,Ri,Rj,Rk,Rl,Rm,Ya,Yb,Yc,Rn,Ro,Rp,Yd,Ye,Rq,Rs,Rt,Ru,Rv,Rw,Rx]
    simp only[c8,Qa,Qb,Qc,Qd,Qe,Qf,Qg,Qh,Qi,Qj,Qk,Ql,Qm,Qn,true_and,and_true,Qo,Qp,Qq,Qr,Qs,Qt,Qu,Qv,Qw,Qx,Qy,Qz,Ra,Rb,Rc,Rd,Re,Rf,Rg,Rh,Ri,Rj,Rk,Rl,Rm,Ya,Yb,Yc,Rn,Ro,Rp,Yd,Ye,Rq,Rs,Rt,Ru,Rv,Rw,Rx]at hloop ⊢
    exact hloop
  · intro s' v' F A M y10 y13 y14 y15 g' k' i' hA hF hT'
    have hs0:=sols_solve hE g' (setV_same _ p v') i' (hbd:=⟨by omega,by omega,.inl h3⟩) (most:=0) (by decide) hF
    simp only[ptrA,e0]at hs0
    simp only[if_true,c8,c8o17,ptrA,Qa,Qb,Qc,Qd,Qe,Qf,Qg,Qh,Qi,Qj,Qk,Ql,Qm,Qn,true_and,and_true,Qo,Qp,Qq,Qr,Qs,Qt,Qu,Qv,Qw,Qx,Qy,Qz,Ra,Rb,Rc,Rd,Re,Rf,Rg,Rh,Ri,Rj,Rk,Rl,Rm,Ya,Yb,Yc,Rn,Ro,Rp,Yd,Ye,Rq,Rs,Rt,Ru,Rv,Rw,Rx]
    refine hs0.mono ?_
    rintro _ s6 ⟨c',v6,rfl,_,_,hc',_,_⟩
    have hd1:decide ((0:Int)≠1)=true:=by decide
    have hd2:decide ((1:Int)≠1)=false:=by decide
    have hd3:decide ((2:Int)≠1)=true:=by decide
    rcases hc' with⟨rfl,_⟩ | ⟨rfl,_,q⟩ | ⟨rfl,_⟩
    · simp only[hd1,Qa,Qb,Qc,Qd,Qe,Qf,Qg,Qh,Qi,Qj,Qk,Ql,Qm,Qn,true_and,and_true,Qo,Qp,Qq,Qr,Qs,Qt,Qu,Qv,Qw,Qx,Qy,Qz,Ra,Rb,Rc,Rd,Re,Rf,Rg,Rh,Ri,Rj,Rk,Rl,Rm,Ya,Yb,Yc,Rn,Ro,Rp,Yd,Ye,Rq,Rs,Rt,Ru,Rv,Rw,Rx]
    · rcases hT' with ⟨_, h0⟩ | ⟨rfl, _⟩
      · exact absurd q (h0 _)
      · simp only[hd2,decide_true,Qa,Qb,Qc,Qd,Qe,Qf,Qg,Qh,Qi,Qj,Qk,Ql,Qm,Qn,true_and,and_true,Qo,Qp,Qq,Qr,Qs,Qt,Qu,Qv,Qw,Qx,Qy,Qz,Ra,Rb,Rc,Rd,Re,Rf,Rg,Rh,Ri,Rj,Rk,Rl,Rm,Ya,Yb,Yc,Rn,Ro,Rp,Yd,Ye,Rq,Rs,Rt,Ru,Rv,Rw,Rx]
    · simp only[hd3,Qa,Qb,Qc,Qd,Qe,Qf,Qg,Qh,Qi,Qj,Qk,Ql,Qm,Qn,true_and,and_true,Qo,Qp,Qq,Qr,Qs,Qt,Qu,Qv,Qw,Qx,Qy,Qz,Ra,Rb,Rc,Rd,Re,Rf,Rg,Rh,Ri,Rj,Rk,Rl,Rm,Ya,Yb,Yc,Rn,Ro,Rp,Yd,Ye,Rq,Rs,Rt,Ru,Rv,Rw,Rx]
section
variable{H:Type}{enc:TypeId×Value→H}{W:World}{base:Nat}
theorem enter_ubb{v0 v1 v2:Value}(h0:Value.okWide Try.prog W .any base 5 v0)(h1:Value.okWide Try.prog W .any base 42 v1)(h2:Value.okWide Try.prog W .any base 42 v2)
    {d0 d1 d2:DataW H} {p0 p1 p2:List MemPlace} (t0:DataW.Trod enc Try.prog W 0 (fun _=>true) true 5 v0 d0 p0) (t1:DataW.Trod enc Try.prog W 0 (fun _=>true) true 42 v1 d1 p1) (t2:DataW.Trod enc Try.prog W 0 (fun _=>true) true 42 v2 d2 p2):
    ∃ (ρ:Rho) (s:ASt) (d:Int) (u w:AV) (bs xs:List Int),Door Try.prog W ρ s∧VRel ρ (u8v d) v0∧VRel ρ u v1∧VRel ρ w v2∧u8 d∧(SliceAt s.next s u (u8vs bs)∧U8s bs∧bs.length<9223372036854775808)∧SliceAt s.next s w (u8vs xs)∧U8s xs∧xs.length<9223372036854775808:=by
  obtain⟨ρ,s,d,u,bs,hd,r0,r1,q1,q2,q3,q4⟩:=enter_ub h0 h1 t0 t1
  obtain⟨n2,t2⟩:=t2
  obtain⟨ρ2,s2,us2,xs,k1,k2,k3,k4,k5⟩:=enter_nums (q:=u8) Try.underlying42 Try.underlying5 co5 (fun n h=>wf_u8 h) t2 (fun a ha=>size_pos Try.underlying42 h2 a ha) hd
  obtain⟨w,rfl,m1,m2,m3⟩:=sliceIn_at k5
  exact⟨ρ2,s2,d,u,w,bs,xs,k1,r0.mono k2,r1.mono k2,arg_rel Try.underlying42 h2 k4,q1,⟨(q2.old k3 (Nat.le_refl _)).mono k3.1,q3,q4⟩,m1,m2,m3⟩
theorem stays19_true{v0 v1 v2:Value}(h0:Value.okWide Try.prog W .any base 5 v0)(h1:Value.okWide Try.prog W .any base 42 v1)(h2:Value.okWide Try.prog W .any base 42 v2)
    {d0 d1 d2:DataW H} {p0 p1 p2:List MemPlace} (t0:DataW.Trod enc Try.prog W 0 (fun _=>true) true 5 v0 d0 p0) (t1:DataW.Trod enc Try.prog W 0 (fun _=>true) true 42 v1 d1 p1) (t2:DataW.Trod enc Try.prog W 0 (fun _=>true) true 42 v2 d2 p2):
    Calls Try.prog 8 #[v0,v1,v2] W fun e W'=>e=.returned (.bool true)∧Kept W W':=by
  obtain⟨ρ,s,d,u,w,bs,xs,hd,r0,r1,r2,q1,⟨a1,a2,a3⟩,b1,b2,b3⟩:=enter_ubb h0 h1 h2 t0 t1 t2
  refine call_true hd (.cons r0 (.cons r1 (.cons r2 .nil))) ?_
  exact stays_ok good_envW (Nat.le_refl _) q1 a2 a3 b2 b3 a1 b1
end
end
end Go.Proofs.Ytilhhmkdcoajnaa.Am
