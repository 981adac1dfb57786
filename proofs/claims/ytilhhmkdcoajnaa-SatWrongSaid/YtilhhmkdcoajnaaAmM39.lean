/- The solver's functions, told by clauses and models; conditions: sizes fit. -/
import Derived.Test.YtilhhmkdcoajnaaAmM38
import Derived.Test.YtilhhmkdcoajnaaAmSatLaw
import Derived.Test.YtilhhmkdcoajnaaAmM35
import Derived.Test.YtilhhmkdcoajnaaAmM32
set_option linter.unusedVariables false
set_option linter.unusedSimpArgs false
set_option maxRecDepth 16000
namespace Go.Proofs.Ytilhhmkdcoajnaa.Am
open Go Go.Proofs
noncomputable section
def SI(n A:Nat)(F:List (List Int))(M:Nat)(v:Sv):Prop:=(∃C,Live n A F C v∧v.limits=[]∧C.length≤M)∨Dead n F M v
def Bd(n A M:Nat):Prop:=n≤1000∧A≤10000∧(3 ^ n≤1900∨M≤1900)
theorem Live.few{n A:Nat}{F:List (List Int)}{C:List Nat}{v:Sv}{M:Nat}(h:Live n A F C v)(hM:C.length≤M)(hb:Bd n A M):C.length≤1900:=by
  rcases hb.2.2 with q | q
  · have:=h.cod.len;omega
  · omega
theorem SI.inv{n A:Nat}{F:List (List Int)}{M:Nat}{v:Sv}(h:SI n A F M v)(hb:Bd n A M):Inv1 n v∧v.limits=[]∧v.trace.length≤1000000∧Tot v.watches≤50000000:=by
  rcases h with⟨C,h1,h2,h3⟩ | h
  · have := h1.few h3 hb
    have:=h1.cod.trc
    have:=h1.cod.tot
    have:=hb.2.1
    exact⟨h1.ci.ct.inv,h2,by omega,by omega⟩
  · exact⟨h.inv.inv,h.lim,h.trc,h.inv.tot⟩
theorem back_lim{v:Sv}(h:v.limits=[]):backV v 0=v:=back_none (by rw[h];exact Nat.le_refl _)
theorem Dead.mono{n:Nat}{F F':List (List Int)}{M M':Nat}{v:Sv}(h:Dead n F M v)(hM:M≤M')(hF:∀σ,Models σ F'→Models σ F):Dead n F' M' v:=
  ⟨h.brk,h.inv,h.lim,h.trc,by have:=h.many;omega,fun σ hσ=>h.no σ (hF σ hσ)⟩
theorem Live.ne{n A:Nat}{F:List (List Int)}{C:List Nat}{v:Sv}(h:Live n A F C v):[] ∉ F:=fun q=>by
  rcases h.ci.cover [] q with⟨y,hy,_⟩ | ⟨c,ls,b,h1,h2⟩
  · cases hy
  · obtain⟨_,c2,_,_⟩:=h.ci.ct.cls c ls b h1
    cases ls with
    | nil=>exact c2 rfl
    | cons y ls=>exact absurd (h2 y (List.mem_cons_self ..)) (by simp)
structure Fresh(k:Nat)(v:Sv):Prop where
  w:v.watches=List.replicate (2 * k) []
  value:v.value=List.replicate k 0
  level:v.level=List.replicate k 0
  why:v.why=List.replicate k none
  heat:v.heat=List.replicate k 0
  phase:v.phase=List.replicate k (-1)
  rest:v.learned=[]∧v.trail=[]∧v.limits=[]∧v.head=0∧v.broken=false∧v.model=[]∧v.trace=[]∧v.many=0∧v.room=2000∧v.cl=fun _=>none
theorem Fresh.one{k:Nat}{v:Sv}(h:Fresh k v):Fresh (k+1) (grow1 v):=by
  have e:∀ {α:Type} (a:α),List.replicate (k+1) a=List.replicate k a++[a]:=fun a=>List.replicate_succ'
  refine⟨?_,?_,?_,?_,?_,?_,h.rest⟩
  · show v.watches++[[],[]]=_
    rw[h.w,show 2 * (k+1)=2 * k+2 by omega,← List.replicate_append_replicate]
    rfl
  · show v.value++[0]=_;rw[h.value,e]
  · show v.level++[0]=_;rw[h.level,e]
  · show v.why++[none]=_;rw[h.why,e]
  · show v.heat++[0]=_;rw[h.heat,e]
  · show v.phase++[-1]=_;rw[h.phase,e]
theorem Fresh.grow:∀ (m:Nat){k:Nat}{v:Sv},Fresh k v→Fresh (k+m) (growN m v)
  | 0,k,v,h=>h
  | m+1,k,v,h=>by
    have:=Fresh.grow m h.one
    rw[show k+(m+1)=k+1+m by omega]
    exact this
theorem fresh_new(n:Nat):Fresh (n+1) (growV newV n):=by
  have h0:Fresh 0 newV:=⟨rfl,rfl,rfl,rfl,rfl,rfl,rfl,rfl,rfl,rfl,rfl,rfl,rfl,rfl,rfl,rfl⟩
  have:=h0.grow (n+1)
  rw[Nat.zero_add]at this
  exact this
theorem getD_rep{α:Type}(m k:Nat)(a:α):(List.replicate m a).getD k a=a:=by
  rw[List.getD_eq_getElem?_getD,List.getElem?_replicate]
  split<;>rfl
theorem Fresh.live {n : Nat} (hn : n < 100000000) {v : Sv} (h : Fresh (n + 1) v) : Live n 0 [] [] v ∧ v.limits = [] := by
  obtain⟨r1,r2,r3,r4,r5,r6,r7,r8,r9,r10⟩:=h.rest
  have hw:∀k,v.watches.getD k []=[]:=fun k=>by rw[h.w];exact getD_rep _ _ _
  have hi:Inv1 n v:=by
    refine⟨⟨⟨hn,by rw[h.w,List.length_replicate];omega,by rw[h.value,List.length_replicate],by rw[h.level,List.length_replicate],by rw[h.why,List.length_replicate],by rw[h.heat,List.length_replicate],by rw[h.phase,List.length_replicate],by rw[r2];exact Nat.zero_le _,by rw[r3];exact Nat.zero_le _⟩,fun x hx=>?_,by rw[r2];simp,by rw[r3];simp⟩,by rw[r2];simp,by rw[r2];simp,fun k _=>by rw[h.value];exact getD_rep _ _ _,fun L hL c hc=>?_⟩
    · rw[h.value]at hx
      have:=List.eq_of_mem_replicate hx
      exact .inr (.inl this)
    · rw [h.w] at hL
      rw[List.eq_of_mem_replicate hL]at hc
      cases hc
  have hcl:∀c l,v.cl c=some l→False:=fun c l hc=>by rw[r10]at hc;cases hc
  refine⟨⟨r5,⟨⟨hi,by rw[r3];exact List.Pairwise.nil,by rw[r3];simp,by rw[r2];simp,by rw[r2];simp,fun c ls b hc=>(hcl _ _ hc).elim⟩,⟨fun c ls b hc=>(hcl _ _ hc).elim,fun k c ls b _ hc=>(hcl _ _ hc).elim,fun k=>by rw[hw];exact List.Pairwise.nil,fun c ls b hc=>(hcl _ _ hc).elim⟩,by rw[r4];exact Nat.zero_le _,by rw[r3];simp,fun c ls b hc=>(hcl _ _ hc).elim,fun j t _ c ls b hc=>(hcl _ _ hc).elim,fun σ _ c ls b hc=>(hcl _ _ hc).elim,by simp,fun k h1 h2=>?_⟩,by rw[r4];exact Int.le_refl _,by rw[r4,r2];exact Int.le_refl _,⟨by simp,by simp,by rw[r8];rfl,by rw[r1];exact Nat.le_refl _,by rw[r7];exact Nat.le_refl _,?_,r9⟩⟩,r3⟩
  · rw[h.phase,List.getD_eq_getElem?_getD,List.getElem?_replicate,if_pos (by omega)]
    exact .inr rfl
  · rw[h.w]
    have:∀m,Tot (List.replicate m [])=0:=fun m=>by
      induction m with
      | zero=>rfl
      | succ m ih =>
        rw[List.replicate_succ]
        show([]:List Nat).length+Tot (List.replicate m [])=0
        rw[ih];rfl
    rw[this]
    exact Nat.zero_le _
theorem new_use{E:Env}(hE:Good E)(ow:Ow){s:ASt}{n:Nat}(hn:n≤1000):
    WF E 40 [iv (n:Int)] (fun r s'=>∃v ow' x',r=ptrA s.next∧SAt ow' s' s.next x' v∧SI n 0 [] 0 v∧v.many=0∧Step (mine s.next) ow s ow' s') s:=by
  refine(new_ok hE ow (n:=n) (by omega)).mono ?_
  rintro _ s' ⟨ow',x',rfl,g1,g2⟩
  obtain⟨h1,h2⟩:=(fresh_new n).live (by omega)
  exact⟨_,ow',x',rfl,g1,.inl ⟨[],h1,h2,Nat.le_refl _⟩,(fresh_new n).rest.2.2.2.2.2.2.2.1,g2⟩
theorem SI.add {n A : Nat} {F : List (List Int)} {M : Nat} {v : Sv} (h : SI n A F M v) (hb : Bd n A M) {f : List Int} (hf : ∀ q ∈ f, VL n q) (hlen : f.length ≤ 12) {v' : Sv} (hr : AddR v f v') : SI n (A + 1) (F ++ [f]) M v' ∧ v'.many = v.many := by
  rcases h with⟨C,h1,h2,h3⟩ | h
  · have hfew:=h1.few h3 hb
    rcases add_ci h1.ci h2 h1.brk hf hlen hr with⟨g1,g2,g3,g4,g5⟩ | ⟨g1,g2,g3,g4,g5,g6⟩
    · refine⟨.inl ⟨C,⟨g1,by rw[g3.head];exact g2,by rw[g3.head];exact h1.h0,by rw[g3.head];have:=h1.h1;omega,⟨h1.cod.nd,fun k hk=>?_,by rw[g3.many];exact h1.cod.many,by rw[g3.learned];exact h1.cod.lrn,by rw[g4];exact h1.cod.trc,by have:=g3.tot;have:=h1.cod.tot;omega,by rw[g3.room];exact h1.cod.room⟩⟩,by rw[g3.limits];exact h2,h3⟩,g3.many⟩
      obtain⟨q1,q2,c,ls,b,q3,q4⟩:=h1.cod.mem k hk
      exact⟨q1,q2,c,ls,b,g3.cl _ _ q3,q4⟩
    · refine ⟨.inr ⟨g1, ⟨g2, ?_, by rw [g3.head]; exact h1.h0, by rw [g3.head, g5]; exact h1.h1⟩, by rw [g3.limits]; exact h2, ?_, ?_, g6⟩, g3.many⟩
      · have := g3.tot
        have:=h1.cod.tot
        have:=hb.2.1
        omega
      · rw[g4]
        have:=h1.cod.trc
        omega
      · rw[g3.many,h1.cod.many]
        omega
  · have e:v'=v:=by
      cases hr with
      | none _=>rfl
      | nil _ hb' _=>rw[h.brk]at hb';cases hb'
      | put _ hb' _ _=>rw[h.brk]at hb';cases hb'
    rw[e]
    exact⟨.inr (h.mono (Nat.le_refl _) fun σ hσ g hg=>hσ g (List.mem_append_left _ hg)),rfl⟩
theorem add_use{E:Env}(hE:Good E){ow:Ow}{s:ASt}{p:Nat}{x:Sf}{v:Sv}(h:SAt ow s p x v){n A:Nat}{F:List (List Int)}{M:Nat}(hI:SI n A F M v)(hbd:Bd n A M){f:List Int}(hf:∀q∈f,VL n q)(hlen:f.length≤12){b:Nat}{u:AV}(hb:b≤s.next)(hu:SliceAt b s u (ivs f))(hus:∀j,slot u=some j→(ow j).1≠p∧j<s.next):
    WF E 36 [ptrA p,u] (fun r s'=>r=iv 0∧∃v' ow' x',SI n (A+1) (F++[f]) M v'∧v'.many=v.many∧SAt ow' s' p x' v'∧Step (mine p) ow s ow' s') s:=by
  obtain⟨i1,i2,i3,i4⟩:=hI.inv hbd
  have hbk:=back_lim i2
  refine(add_ok hE h i1.fit (by rw[hbk];exact i1.fit.val) i3 (by omega) hlen hf hb hu hus).mono ?_
  rintro _ s' ⟨rfl,v',ow',x',g1,g2,g3⟩
  rw[hbk]at g1
  obtain⟨k1,k2⟩:=hI.add hbd hf hlen g1
  exact⟨rfl,v',ow',x',k1,k2,g2,g3⟩
theorem wrong_use{E:Env}(hE:Good E){ow:Ow}{s:ASt}{p:Nat}{x:Sf}{v:Sv}(h:SAt ow s p x v){n A:Nat}{F:List (List Int)}{M:Nat}(hI:SI n A F M v)(hbd:Bd n A M){f:List Int}(hf:∃q∈f,¬ VL n q)(hlen:f.length≤12){b:Nat}{u:AV}(hb:b≤s.next)(hu:SliceAt b s u (ivs f)):
    WF E 36 [ptrA p,u] (fun r s'=>r=iv 2∧Old s.next s s') s:=by
  obtain⟨i1,i2,i3,i4⟩:=hI.inv hbd
  have:=hbd.1
  exact add_bad hE h (n:=n) (by omega) i1.fit.siz.value (by omega) hf hb hu
theorem solve_use{E:Env}(hE:Good E){ow:Ow}{s:ASt}{p:Nat}{x:Sf}{v:Sv}(h:SAt ow s p x v){n A:Nat}{F:List (List Int)}{M most:Nat}(hI:SI n A F M v)(hbd:Bd n A (M+most))(hmost:most≤100000)(hF:∀f∈F,∀y∈f,VL n y):
    WF E 34 [ptrA p,iv (most:Int)] (fun r s'=>∃ (c:Int) (v':Sv) (ow':Ow) (x':Sf),r=iv c∧SI n A F (M+most) v'∧(v'.many≤((M+most:Nat):Int))∧(c=0∧(∀σ,¬ Models σ F)∨c=1∧v'.model.length=n+1∧Models (tells v'.model) F∨c=2∧(n≤6→most<729)∧[] ∉ F)∧SAt ow' s' p x' v'∧Step (mine p) ow s ow' s') s:=by
  obtain⟨h1,h2,h3⟩:=hbd
  have start:∃c0,c0≤M∧LoopI n A F c0 most 0 v∧(3 ^ n≤1900∨c0+most≤1900):=by
    rcases hI with⟨C,g1,g2,g3⟩ | g
    · exact⟨C.length,g3,⟨Nat.zero_le _,.inl ⟨C,g1,rfl⟩⟩,h3.imp id fun q=>by omega⟩
    · exact⟨M,Nat.le_refl _,⟨Nat.zero_le _,.inr (g.mono (by omega) fun σ hσ=>hσ)⟩,h3⟩
  obtain⟨c0,s1,s2,s3⟩:=start
  obtain⟨i1,i2,_,_⟩:=hI.inv ⟨h1,h2,h3.imp id fun q=>by omega⟩
  have hbk:=back_lim i2
  refine(solve_ok hE (solve_law (A:=A) (c0:=c0) (most:=most) hF (by omega) s3) (by omega) (by omega) h i1.fit (by rw[hbk];exact s2)).mono ?_
  rintro _ s' ⟨c,v',ow',x',rfl,g1,g2,g3⟩
  rcases g1 with⟨rfl,k⟩ | ⟨rfl,C,k1,k2,k3,k4,k5⟩ | ⟨rfl,C,k1,k2,k3,k4⟩
  · exact⟨0,v',ow',x',rfl,.inr (k.mono (by omega) fun σ hσ=>hσ),by have:=k.many;omega,.inl ⟨rfl,k.no⟩,g2,g3⟩
  · exact⟨1,v',ow',x',rfl,.inl ⟨C,k1,k2,by omega⟩,by rw[k1.cod.many];omega,.inr (.inl ⟨rfl,k4,k5⟩),g2,g3⟩
  · refine⟨2,v',ow',x',rfl,.inl ⟨C,k1,k2,by omega⟩,by rw[k1.cod.many];omega,.inr (.inr ⟨rfl,fun hn=>?_,k1.ne⟩),g2,g3⟩
    have:3 ^ n≤3 ^ 6:=Nat.pow_le_pow_right (by decide) hn
    have e:(3:Nat) ^ 6=729:=rfl
    omega
theorem value_use{E:Env}(hE:Good E){ow:Ow}{s:ASt}{p:Nat}{x:Sf}{v:Sv}(h:SAt ow s p x v){k:Nat}(h1:1≤k):
    WF E 41 [ptrA p,iv (k:Int)] (fun r s'=>r=.bool (tells v.model k)∧s=s') s:=by
  have hne:binA Try.prog .neq 44 (ptrA p) (.ptr none)=some (.bool true):=rfl
  have d1:decide ((0:Int)<(k:Int))=true:=decide_eq_true (by omega)
  have ln:∀s,lenA Try.prog s 23 x.mo=some (iv (v.model.length:Int)):=fun s=>by
    have:=h.model.len Try.underlying23 s
    rw[List.length_map]at this
    exact this
  simp only[ptrA]at hne
  refine hE.go comp41 (by decide) rfl ?_
  by_cases hk:k<v.model.length
  · have d2 : decide ((k : Int) < (v.model.length : Int)) = true := decide_eq_true (by omega)
    have hg:=getD_get (d:=(0:Int)) hk
    have i1:=h.model.addr Try.underlying23 sz3 (k:=k) (by rw[List.length_map];exact hk)
    have i2:=h.model.get (t:=3) ag3 (k:=k) (get_ivs hg)
    simp only[c41,c41o0,c41o1,ptrA,hne,d1,nilCheck_ptr,fa91_11,h.ld_mo,ln,d2,i1,i2,Qa,Qb,Qc,Qd,Qe,Qf,Qg,Qh,Qi,Qj,Qk,Ql,Qm,Qn,true_and,and_true,Qo,Qp,Qq,Qr,Qs,Qt,Qu,Qv,Qw,Qx,Qy,Qz,Ra,Rb,Rc,Rd,Re,Rf,Rg,Rh,Ri,Rj,Rk,Rl,Rm,Ya,Yb,Yc,Rn,Ro,Rp,Yd,Ye,Rq,Rs,Rt,Ru,Rv,Rw,Rx]
    rfl
  · have d2 : decide ((k : Int) < (v.model.length : Int)) = false := decide_eq_false (by omega)
    have e:tells v.model k=false:=by
      unfold tells
      rw[List.getD_eq_getElem?_getD,List.getElem?_eq_none (by omega)]
      rfl
    simp only[c41,c41o0,c41o1,ptrA,hne,d1,nilCheck_ptr,fa91_11,h.ld_mo,ln,d2,Qa,Qb,Qc,Qd,Qe,Qf,Qg,Qh,Qi,Qj,Qk,Ql,Qm,Qn,true_and,and_true,Qo,Qp,Qq,Qr,Qs,Qt,Qu,Qv,Qw,Qx,Qy,Qz,Ra,Rb,Rc,Rd,Re,Rf,Rg,Rh,Ri,Rj,Rk,Rl,Rm,Ya,Yb,Yc,Rn,Ro,Rp,Yd,Ye,Rq,Rs,Rt,Ru,Rv,Rw,Rx]
    rw[e]
def setV(V:Nat→Option Sv)(p:Nat)(v:Sv):Nat→Option Sv:=fun q=>if q=p then some v else V q
theorem setV_same(V:Nat→Option Sv)(p:Nat)(v:Sv):setV V p v p=some v:=if_pos rfl
theorem setV_ne{V:Nat→Option Sv}{p q:Nat}{v:Sv}(h:q≠p):setV V p v q=V q:=if_neg h
theorem setV_set(V:Nat→Option Sv)(p:Nat)(v w:Sv):setV (setV V p v) p w=setV V p w:=by
  funext q
  unfold setV
  split<;>rfl
def Sols(B:Nat→Prop)(s:ASt)(V:Nat→Option Sv):Prop:=∃ow:Ow,(∀p v,V p=some v→∃x,SAt ow s p x v)∧∀j,B j→j<s.next∧V (ow j).1=none
def Keep(B:Nat→Prop)(s s':ASt):Prop:=s.next≤s'.next∧∀j,B j→s'.heap.get j=s.heap.get j
theorem Keep.refl(B:Nat→Prop)(s:ASt):Keep B s s:=⟨Nat.le_refl _,fun _ _=>rfl⟩
theorem Keep.trans{B:Nat→Prop}{s s1 s2:ASt}(h:Keep B s s1)(k:Keep B s1 s2):Keep B s s2:=⟨Nat.le_trans h.1 k.1,fun j hj=>(k.2 j hj).trans (h.2 j hj)⟩
theorem Keep.mono{B B':Nat→Prop}{s s':ASt}(h:Keep B s s')(k:∀j,B' j→B j):Keep B' s s':=⟨h.1,fun j hj=>h.2 j (k j hj)⟩
theorem Sols.less{B B':Nat→Prop}{s:ASt}{V:Nat→Option Sv}(h:Sols B s V)(k:∀j,B' j→B j):Sols B' s V:=by
  obtain⟨ow,h1,h2⟩:=h
  exact⟨ow,h1,fun j hj=>h2 j (k j hj)⟩
theorem Sols.frame{B:Nat→Prop}{s s':ASt}{V:Nat→Option Sv}(h:Sols B s V)(hn:s.next≤s'.next)(hf:∀j,j<s.next→¬ B j→s'.heap.get j=s.heap.get j):Sols (fun j=>B j∨(s.next≤j∧j<s'.next)) s' V:=by
  obtain⟨ow,h1,h2⟩:=h
  have hV:V s.next=none:=by
    cases hv:V s.next with
    | none=>rfl
    | some v =>
      obtain⟨x,hx⟩:=h1 _ v hv
      have:=hx.lt
      omega
  have st:Step (fun t=>V t.1=none) ow s (ext ow s.next (s.next,0,0)) s':=⟨hn,fun x hx _=>ext_lt hx,fun x hx hm=>hf x hx fun q=>hm (h2 x q).2⟩
  refine⟨ext ow s.next (s.next,0,0),fun p v hp=>?_,fun j hj=>?_⟩
  · obtain⟨x,hx⟩:=h1 p v hp
    exact⟨x,hx.keep st fun t ht e=>by rw[e,hp]at ht;cases ht⟩
  · rcases hj with q | ⟨q1, q2⟩
    · obtain⟨r1,r2⟩:=h2 j q
      exact⟨by omega,by rw[ext_lt r1];exact r2⟩
    · exact⟨q2,by rw[ext_ge q1];exact hV⟩
theorem Sols.old{B:Nat→Prop}{s s':ASt}{V:Nat→Option Sv}(h:Sols B s V)(ho:Old s.next s s'):Sols (fun j=>B j∨(s.next≤j∧j<s'.next)) s' V:=h.frame ho.1 fun j hj _=>ho.2 j hj
theorem Keep.old{B:Nat→Prop}{s s':ASt}{V:Nat→Option Sv}(h:Sols B s V)(ho:Old s.next s s'):Keep B s s':=by
  obtain⟨ow,_,h2⟩:=h
  exact⟨ho.1,fun j hj=>ho.2 j (h2 j hj).1⟩
theorem Sols.used{B:Nat→Prop}{s s':ASt}{V:Nat→Option Sv}{ow ow':Ow}{p:Nat}{v v':Sv}{x':Sf}(h1:∀p v,V p=some v→∃x,SAt ow s p x v)(h2:∀j,B j→j<s.next∧V (ow j).1=none)(hp:V p=some v)(hs:SAt ow' s' p x' v')(st:Step (mine p) ow s ow' s'):Sols B s' (setV V p v')∧Keep B s s':=by
  have hn:=st.next
  have hB:∀j,B j→¬ mine p (ow j):=fun j hj q=>by
    have q:(ow j).1=p:=q
    have:=(h2 j hj).2
    rw[q,hp]at this
    cases this
  refine⟨⟨ow',fun q w hq=>?_,fun j hj=>?_⟩,hn,fun j hj=>st.heap j (h2 j hj).1 (hB j hj)⟩
  · by_cases e : q = p
    · rw[e,setV_same]at hq
      injection hq with hq
      rw[← hq,e]
      exact⟨x',hs⟩
    · rw[setV_ne e]at hq
      obtain⟨x,hx⟩:=h1 q w hq
      exact⟨x,hx.keep st fun t ht e'=>by rw[show t.1=p from ht]at e';exact e e'.symm⟩
  · obtain⟨r1,r2⟩:=h2 j hj
    refine⟨by omega,?_⟩
    rw[st.tags j r1 (hB j hj)]
    have:(ow j).1≠p:=fun q=>hB j hj q
    rw[setV_ne this]
    exact r2
theorem sols_new{E:Env}(hE:Good E){B:Nat→Prop}{s:ASt}{V:Nat→Option Sv}(h:Sols B s V){n:Nat}(hn:n≤1000):
    WF E 40 [iv (n:Int)] (fun r s'=>∃v,r=ptrA s.next∧V s.next=none∧Sols B s' (setV V s.next v)∧Keep B s s'∧SI n 0 [] 0 v∧v.many=0) s:=by
  obtain⟨ow,h1,h2⟩:=h
  have hV:∀q,s.next≤q→V q=none:=fun q hq=>by
    cases hv:V q with
    | none=>rfl
    | some v =>
      obtain⟨x,hx⟩:=h1 _ v hv
      have:=hx.lt
      omega
  have st1:Step (fun t=>V t.1=none) ow s (fun j=>match V (ow j).1 with | none=>(s.next+1,0,0) | some _=>ow j) s:=⟨Nat.le_refl _,fun x hx hm=>by
    cases hv:V (ow x).1 with
    | none=>exact absurd hv hm
    | some v=>simp only[hv],fun _ _ _=>rfl⟩
  have h1':∀p v,V p=some v→∃x,SAt (fun j=>match V (ow j).1 with | none=>(s.next+1,0,0) | some _=>ow j) s p x v:=fun p v hp=>by
    obtain⟨x,hx⟩:=h1 p v hp
    exact⟨x,hx.keep st1 fun t ht e=>by rw[e,hp]at ht;cases ht⟩
  have h2':∀j,B j→j<s.next∧((fun j=>match V (ow j).1 with | none=>(s.next+1,0,0) | some _=>ow j:Ow) j)=(s.next+1,0,0):=fun j hj=>by
    obtain⟨r1,r2⟩:=h2 j hj
    exact⟨r1,by simp only[r2]⟩
  generalize (fun j=>match V (ow j).1 with | none=>(s.next+1,0,0) | some _=>ow j:Ow)=ow1 at *
  refine(new_use hE ow1 hn).mono ?_
  rintro _ s' ⟨v,ow',x',rfl,g1,g2,g3,g4⟩
  have hB:∀j,B j→¬ mine s.next (ow1 j):=fun j hj q=>by
    have q:(ow1 j).1=s.next:=q
    rw[(h2' j hj).2]at q
    exact absurd q (by show s.next+1≠s.next;omega)
  have hnx:=g4.next
  refine⟨v,rfl,hV _ (Nat.le_refl _),⟨ow',fun q w hq=>?_,fun j hj=>?_⟩,⟨hnx,fun j hj=>g4.heap j (h2' j hj).1 (hB j hj)⟩,g2,g3⟩
  · by_cases e : q = s.next
    · rw[e,setV_same]at hq
      injection hq with hq
      rw[← hq,e]
      exact⟨x',g1⟩
    · rw[setV_ne e]at hq
      obtain⟨x,hx⟩:=h1' q w hq
      exact⟨x,hx.keep g4 fun t ht e'=>by rw[show t.1=s.next from ht]at e';exact e e'.symm⟩
  · obtain⟨r1,r2⟩:=h2' j hj
    refine⟨by omega,?_⟩
    rw[g4.tags j r1 (hB j hj),r2,setV_ne (by show s.next+1≠s.next;omega)]
    exact hV _ (by omega)
def InB(B:Nat→Prop)(u:AV):Prop:=∀j,slot u=some j→B j
theorem sols_add{E:Env}(hE:Good E){B:Nat→Prop}{s:ASt}{V:Nat→Option Sv}(h:Sols B s V){p:Nat}{v:Sv}(hp:V p=some v){n A:Nat}{F:List (List Int)}{M:Nat}(hI:SI n A F M v)(hbd:Bd n A M){f:List Int}(hf:∀q∈f,VL n q)(hlen:f.length≤12){b:Nat}{u:AV}(hb:b≤s.next)(hu:SliceAt b s u (ivs f))(hus:InB B u):
    WF E 36 [ptrA p,u] (fun r s'=>r=iv 0∧∃v',SI n (A+1) (F++[f]) M v'∧v'.many=v.many∧Sols B s' (setV V p v')∧Keep B s s') s:=by
  obtain⟨ow,h1,h2⟩:=h
  obtain⟨x,hx⟩:=h1 p v hp
  refine(add_use hE hx hI hbd hf hlen hb hu fun j hj=>?_).mono ?_
  · obtain⟨r1,r2⟩:=h2 j (hus j hj)
    exact⟨fun q=>(by rw[q,hp]at r2;cases r2),r1⟩
  rintro _ s' ⟨rfl,v',ow',x',g1,g2,g3,g4⟩
  obtain⟨k1,k2⟩:=Sols.used h1 h2 hp g3 g4
  exact⟨rfl,v',g1,g2,k1,k2⟩
theorem sols_wrong{E:Env}(hE:Good E){B:Nat→Prop}{s:ASt}{V:Nat→Option Sv}(h:Sols B s V){p:Nat}{v:Sv}(hp:V p=some v){n A:Nat}{F:List (List Int)}{M:Nat}(hI:SI n A F M v)(hbd:Bd n A M){f:List Int}(hf:∃q∈f,¬ VL n q)(hlen:f.length≤12){b:Nat}{u:AV}(hb:b≤s.next)(hu:SliceAt b s u (ivs f)):
    WF E 36 [ptrA p,u] (fun r s'=>r=iv 2∧Sols B s' V∧Keep B s s') s:=by
  have hS:=h
  obtain⟨ow,h1,h2⟩:=h
  obtain⟨x,hx⟩:=h1 p v hp
  refine(wrong_use hE hx hI hbd hf hlen hb hu).mono ?_
  rintro _ s' ⟨rfl,ho⟩
  exact⟨rfl,(hS.old ho).less fun j hj=>.inl hj,Keep.old hS ho⟩
theorem sols_solve{E:Env}(hE:Good E){B:Nat→Prop}{s:ASt}{V:Nat→Option Sv}(h:Sols B s V){p:Nat}{v:Sv}(hp:V p=some v){n A:Nat}{F:List (List Int)}{M most:Nat}(hI:SI n A F M v)(hbd:Bd n A (M+most))(hmost:most≤100000)(hF:∀f∈F,∀y∈f,VL n y):
    WF E 34 [ptrA p,iv (most:Int)] (fun r s'=>∃ (c:Int) (v':Sv),r=iv c∧SI n A F (M+most) v'∧(v'.many≤((M+most:Nat):Int))∧(c=0∧(∀σ,¬ Models σ F)∨c=1∧v'.model.length=n+1∧Models (tells v'.model) F∨c=2∧(n≤6→most<729)∧[] ∉ F)∧Sols B s' (setV V p v')∧Keep B s s') s:=by
  obtain⟨ow,h1,h2⟩:=h
  obtain⟨x,hx⟩:=h1 p v hp
  refine(solve_use hE hx hI hbd hmost hF).mono ?_
  rintro _ s' ⟨c,v',ow',x',rfl,g1,g2,g3,g4,g5⟩
  obtain⟨k1,k2⟩:=Sols.used h1 h2 hp g4 g5
  exact⟨c,v',rfl,g1,g2,g3,k1,k2⟩
theorem sols_value{E:Env}(hE:Good E){B:Nat→Prop}{s:ASt}{V:Nat→Option Sv}(h:Sols B s V){p:Nat}{v:Sv}(hp:V p=some v){k:Nat}(h1:1≤k):
    WF E 41 [ptrA p,iv (k:Int)] (fun r s'=>r=.bool (tells v.model k)∧s=s') s:=by
  obtain⟨ow,g1,g2⟩:=h
  obtain⟨x,hx⟩:=g1 p v hp
  exact value_use hE hx h1
theorem sols_vars{E:Env}(hE:Good E){B:Nat→Prop}{s:ASt}{V:Nat→Option Sv}(h:Sols B s V){p:Nat}{v:Sv}(hp:V p=some v){n:Nat}(hn:n<100000000)(hv:v.value.length=n+1):WF E 47 [ptrA p] (fun r s'=>r=iv (n:Int)∧s=s') s:=by
  obtain⟨ow,g1,g2⟩:=h
  obtain⟨x,hx⟩:=g1 p v hp
  exact vars_ok hE hx hn hv
theorem sols_none(s:ASt):Sols (fun j=>j<s.next) s fun _=>none:=⟨fun _=>(0,0,0),fun p v hp=>(by cases hp),fun j hj=>⟨hj,rfl⟩⟩
def RowsIn(B:Nat→Prop)(s:ASt)(v:AV)(cs:List (List Int)):Prop:=∃us:List AV,SliceAt s.next s v us∧InB B v∧RowCells s.next s us cs∧∀u∈us,InB B u
theorem RowsIn.keep{B:Nat→Prop}{s s':ASt}{v:AV}{cs:List (List Int)}(h:RowsIn B s v cs)(k:Keep B s s'):RowsIn B s' v cs:=by
  obtain⟨us,h1,h2,h3,h4⟩:=h
  exact⟨us,(h1.keep fun j hj=>k.2 j (h2 j hj)).mono k.1,h2,(h3.keep fun u hu j hj=>k.2 j (h4 u hu j hj)).mono k.1,h4⟩
theorem RowsIn.len{B:Nat→Prop}{s:ASt}{v:AV}{cs:List (List Int)}(h:RowsIn B s v cs)(s':ASt):lenA Try.prog s' 22 v=some (iv (cs.length:Int)):=by
  obtain⟨us,h1,h2,h3,h4⟩:=h
  rw[← h3.1]
  exact h1.len Try.underlying22 s'
theorem RowsIn.row{B:Nat→Prop}{s:ASt}{v:AV}{cs:List (List Int)}(h:RowsIn B s v cs){k:Nat}{L:List Int}(hk:cs[k]? = some L):∃a u,indexAddrA Try.prog 22 v (iv (k:Int))=some a∧loadV Try.prog s 23 a=some u∧SliceAt s.next s u (ivs L)∧InB B u:=by
  obtain⟨us,h1,h2,h3,h4⟩:=h
  obtain⟨u,q1,q2⟩:=h3.2 k L hk
  obtain⟨a,cap,rfl,hc⟩:=h1
  obtain⟨i,o,rfl,hi,hl⟩:=hc k u q1
  refine⟨_,u,idx_slice Try.underlying22 sz23 (by have:=lt_of_get q1;exact this),load_one ag23 (by rw[Nat.mul_one];exact hl),q2,h4 u (List.mem_of_getElem? q1)⟩
abbrev u8v(n:Int):AV:=.int .u8 n
abbrev u8vs(l:List Int):List AV:=l.map u8v
def U8s(l:List Int):Prop:=∀x∈l,u8 x
theorem bin_eql8(a b:Int):binA Try.prog .eql 5 (u8v a) (u8v b)=some (.bool (decide (a=b))):=by
  show some (AV.bool (eqI a b))=_
  rw[eqI_eq];rfl
theorem bin_quo8{a:Int}(h:u8 a):binA Try.prog .quo 5 (u8v a) (u8v 2)=some (u8v (a / 2)):=by
  obtain⟨h1,h2⟩:=h
  have e:IntKind.u8.wrap (a.tdiv 2)=a / 2:=by
    rw[← wrapA_eq,Int.tdiv_eq_ediv_of_nonneg h1]
    exact wrapA_of (in_u8 ⟨by omega,by omega⟩)
  show guardB (sameKind .u8 .u8) ((runP Try.prog (Op.intDiv .quo .u8 a 2)).bind ofValue)=_
  have hk:sameKind .u8 .u8=true:=rfl
  rw[hk]
  unfold Op.intDiv
  rw[if_neg (by decide)]
  dsimp only
  rw[e]
  rfl
theorem get_u8vs{l:List Int}{k:Nat}{x:Int}(h:l[k]? = some x):(u8vs l)[k]? = some (u8v x):=by rw[List.getElem?_map,h];rfl
theorem draw_loop {E : Env} (hE : Good E) {n1 n most size : Nat} {s1 : ASt} (hn1 : n1 ≤ s1.next) (hn0 : 1 ≤ n) (hn : n ≤ 1000) (hsize : size ≤ 4) {bs : List Int} (hbs : U8s bs) (hlen : bs.length < 9223372036854775808) {a : Option (Nat × Nat)} {cap : Option Nat} (hc : CellsAt n1 s1 a (u8vs bs)) (v3 v4 v10 v11 v14 : AV) {Q : ARes → Prop} :
    ∀ (m k i : Nat) (out : List Int) (O : List Nat) (v7 : AV) (s : ASt) (x9 x12 x13 : AV), m = size - k → k ≤ size → i ≤ bs.length → out.length = k → (∀ x ∈ out, VL n x) → Dest s v7 out.length 1 (ivs out) O → ((∀ j ∈ O, n1 ≤ j) ∧ ∀ j, slot v7 = some j → n1 ≤ j) → Old n1 s1 s →
      (∀s' v' out' O' i' y8 y9 y12 y13,i≤i'→i'≤bs.length→(∀x∈out',VL n x)→out'.length≤4→Dest s' v' out'.length 1 (ivs out') O'→((∀j∈O',n1≤j)∧∀j,slot v'=some j→n1≤j)→Old n1 s1 s'→Q ⟨.exit 2,[iv (n:Int),.slice a bs.length cap,iv (most:Int),v3,v4,iv ((i':Nat):Int),iv (size:Int),v',y8,y9,v10,v11,y12,y13,v14],[],s'⟩) →
      WC E none (.loop c31l17) Q [iv (n:Int),.slice a bs.length cap,iv (most:Int),v3,v4,iv (i:Int),iv (size:Int),v7,iv (k:Int),x9,v10,v11,x12,x13,v14] [] s:=by
  intro m
  induction m with
  | zero =>
    intro k i out O v7 s x9 x12 x13 hm hk hi ho hv hd hO hold hq
    have hke:k=size:=by omega
    subst hke
    refine WC.loop' ?_
    simp only[c31l17,c31o10,Int.lt_irrefl,decide_false,Qa,Qb,Qc,Qd,Qe,Qf,Qg,Qh,Qi,Qj,Qk,Ql,Qm,Qn,true_and,and_true,Qo,Qp,Qq,Qr,Qs,Qt,Qu,Qv,Qw,Qx,Qy,Qz,Ra,Rb,Rc,Rd,Re,Rf,Rg,Rh,Ri,Rj,Rk,Rl,Rm,Ya,Yb,Yc,Rn,Ro,Rp,Yd,Ye,Rq,Rs,Rt,Ru,Rv,Rw,Rx]
    exact hq s v7 out O i _ _ _ _ (Nat.le_refl _) hi hv (by omega) hd hO hold
  | succ m ih =>
    intro k i out O v7 s x9 x12 x13 hm hk hi ho hv hd hO hold hq
    have hks:decide ((k:Int)<(size:Int))=true:=decide_eq_true (by omega)
    refine WC.loop' ?_
    by_cases hlt:i<bs.length
    · have hx : bs[i]? = some bs[i] := List.getElem?_eq_getElem hlt
      have hxi:=hbs bs[i] (List.getElem_mem _)
      obtain⟨hx1,hx2⟩:=hxi
      obtain⟨p,o,rfl,hp,hload⟩:=hc i _ (get_u8vs hx)
      have e1:=idx_slice (cap:=cap) (i:=p) (o:=o) Try.underlying42 sz5 hlt
      have ld:loadV Try.prog s 5 (.ptr (some (p,o+i * 1)))=some (u8v bs[i]):=load_one ag5 (by rw[Nat.mul_one,load1_eq (hold.2 p hp)];exact hload)
      have hkk:decide ((i:Int)<(bs.length:Int))=true:=decide_eq_true (by omega)
      have e3:=bin_add Try.prog 3 (i:Int) 1 ⟨by omega,by omega⟩
      have e3':((i:Int)+1)=((i+1:Nat):Int):=by omega
      have e4:=bin_add Try.prog 3 (k:Int) 1 ⟨by omega,by omega⟩
      have e4':((k:Int)+1)=((k+1:Nat):Int):=by omega
      have q1:=bin_quo8 (a:=bs[i]) ⟨hx1,hx2⟩
      have q2:convA Try.prog s 5 3 (u8v (bs[i] / 2))=some (iv (bs[i] / 2)):=conv_u8 ⟨by omega,by omega⟩
      have q3:=bin_rem (P:=Try.prog) (t:=3) (k:=.i64) (a:=bs[i] / 2) (b:=(n:Int)) (by omega) (by omega)
      have r1:=Int.emod_nonneg (bs[i] / 2) (show(n:Int)≠0 by omega)
      have r2:=Int.emod_lt_of_pos (bs[i] / 2) (show(0:Int)<(n:Int) by omega)
      have q4:=bin_add Try.prog 3 1 (bs[i] / 2 % (n:Int)) ⟨by omega,by omega⟩
      have q5:=bin_rem (P:=Try.prog) (t:=5) (k:=.u8) (a:=bs[i]) (b:=2) hx1 (by decide)
      generalize hw:1+bs[i] / 2 % (n:Int)=w at *
      have q6:=un_neg Try.prog w ⟨by omega,by omega⟩
      have b1:∀y:Int,sliceRowA Try.prog 23 1 (zipIdx [0] [iv y])=some (mkRow 3 1 [iv y]):=fun y=>bld_one Try.underlying23 sz3 zr3 rfl rfl
      have hmv:∀ (m:Nat) (i:Nat),Made.val i (.slice m)=.slice (some (i,0)) m (some m):=fun _ _=>rfl
      have go:∀ (y:Int) (w9 w12 w13:AV),VL n y→∃v' s',appendA Try.prog (newObj s (mkRow 3 1 [iv y])) [23,23] [v7,.slice (some (s.next,0)) 1 (some 1)]=some (v',s')∧WC E none (.loop c31l17) Q [iv (n:Int),.slice (some (p,o)) bs.length cap,iv (most:Int),v3,v4,iv ((i+1:Nat):Int),iv (size:Int),v',iv ((k+1:Nat):Int),w9,v10,v11,w12,w13,v14] [] s':=by
        intro y w9 w12 w13 hy
        obtain⟨v',s',O',p1,p2,p3,p4,p5,p6⟩:=push_int' hd (by omega) y
        refine⟨v',s',p1,ih (k+1) (i+1) (out++[y]) O' v' s' _ _ _ (by omega) (by omega) hlt (by simp;omega) (fun x hx=>?_) p2 ⟨fun j hj=>(p5 j hj).elim (hO.1 j) (fun h=>by have:=hold.1;omega),fun j hj=>(p6 j hj).elim (hO.2 j) (fun h=>by have:=hold.1;omega)⟩ (hold.trans ⟨p3,fun j hj=>p4 j (by have:=hold.1;omega) (fun hm=>by have:=hO.1 j hm;omega)⟩) fun s' v' out' O' i' y8 y9 y12 y13 g1=>hq s' v' out' O' i' y8 y9 y12 y13 (by omega)⟩
        rcases List.mem_append.1 hx with h | h
        · exact hv x h
        · rw[List.mem_singleton.1 h];exact hy
      generalize hW:WC E none (CCode.loop c31l17) Q=W at go
      by_cases hodd:bs[i] % 2=1
      · obtain⟨v',s',p1,p2⟩:=go (-w) (iv (-w)) (.bool true) (.bool true) ⟨by omega,by omega⟩
        simp only[c31l17,c31o10,hks,len_slice Try.underlying42,hkk,c31o11,e1,ld,q1,q2,q3,q4,hw,c31o12,q5,bin_eql8,hodd,decide_true,c31o13,q6,c31o14,b1,hmv,p1,c31o15,e3,e3',c31o16,e4,e4',Qa,Qb,Qc,Qd,Qe,Qf,Qg,Qh,Qi,Qj,Qk,Ql,Qm,Qn,true_and,and_true,Qo,Qp,Qq,Qr,Qs,Qt,Qu,Qv,Qw,Qx,Qy,Qz,Ra,Rb,Rc,Rd,Re,Rf,Rg,Rh,Ri,Rj,Rk,Rl,Rm,Ya,Yb,Yc,Rn,Ro,Rp,Yd,Ye,Rq,Rs,Rt,Ru,Rv,Rw,Rx]
        exact p2
      · obtain⟨v',s',p1,p2⟩:=go w (iv w) (.bool true) (.bool false) ⟨by omega,by omega⟩
        simp only[c31l17,c31o10,hks,len_slice Try.underlying42,hkk,c31o11,e1,ld,q1,q2,q3,q4,hw,c31o12,q5,bin_eql8,hodd,decide_false,c31o14,b1,hmv,p1,c31o15,e3,e3',c31o16,e4,e4',Qa,Qb,Qc,Qd,Qe,Qf,Qg,Qh,Qi,Qj,Qk,Ql,Qm,Qn,true_and,and_true,Qo,Qp,Qq,Qr,Qs,Qt,Qu,Qv,Qw,Qx,Qy,Qz,Ra,Rb,Rc,Rd,Re,Rf,Rg,Rh,Ri,Rj,Rk,Rl,Rm,Ya,Yb,Yc,Rn,Ro,Rp,Yd,Ye,Rq,Rs,Rt,Ru,Rv,Rw,Rx]
        exact p2
    · have hkk:decide ((i:Int)<(bs.length:Int))=false:=decide_eq_false (by omega)
      simp only[c31l17,c31o10,hks,len_slice Try.underlying42,hkk,Qa,Qb,Qc,Qd,Qe,Qf,Qg,Qh,Qi,Qj,Qk,Ql,Qm,Qn,true_and,and_true,Qo,Qp,Qq,Qr,Qs,Qt,Qu,Qv,Qw,Qx,Qy,Qz,Ra,Rb,Rc,Rd,Re,Rf,Rg,Rh,Ri,Rj,Rk,Rl,Rm,Ya,Yb,Yc,Rn,Ro,Rp,Yd,Ye,Rq,Rs,Rt,Ru,Rv,Rw,Rx]
      exact hq s v7 out O i _ _ _ _ (Nat.le_refl _) hi hv (by omega) hd hO hold
def Drawn(n:Nat)(cs:List (List Int)):Prop:=∀L∈cs,(∀x∈L,VL n x)∧L.length≤4
theorem drawn_loop {E : Env} (hE : Good E) {s0 : ASt} {b n most : Nat} (hb : b ≤ s0.next) (hn0 : 1 ≤ n) (hn : n ≤ 1000) (hmost : most ≤ 1000) {bs : List Int} (hbs : U8s bs) (hlen : bs.length < 9223372036854775808) {a : Option (Nat × Nat)} {cap : Option Nat} (hc : CellsAt b s0 a (u8vs bs)) (v3 : AV) {Q : ARes → Prop}
    (hq:∀s' v' us' cs' O' y5 y6 y7 y8 y9 y10 y11 y12 y13 y14,Made20 s0.next s' v' us' cs' O'→Drawn n cs'→cs'.length≤most→Old s0.next s0 s'→Q ⟨.exit 0,[iv (n:Int),.slice a bs.length cap,iv (most:Int),v3,v',y5,y6,y7,y8,y9,y10,y11,y12,y13,y14],[],s'⟩):
    ∀ (m i:Nat) (us:List AV) (cs:List (List Int)) (O:List Nat) (v4:AV) (s:ASt) (x6 x7 x8 x9 x10 x11 x12 x13 x14:AV),bs.length - i≤m→i≤bs.length→Made20 s0.next s v4 us cs O→Drawn n cs→cs.length≤most→Old s0.next s0 s →
      WC E none (.loop c31l20) Q [iv (n:Int),.slice a bs.length cap,iv (most:Int),v3,v4,iv (i:Int),x6,x7,x8,x9,x10,x11,x12,x13,x14] [] s:=by
  intro m
  induction m with
  | zero =>
    intro i us cs O v4 s x6 x7 x8 x9 x10 x11 x12 x13 x14 hm hi hmd hdr hle hold
    have hkk:decide ((i:Int)<(bs.length:Int))=false:=decide_eq_false (by omega)
    refine WC.loop' ?_
    simp only[c31l20,c31o3,len_slice Try.underlying42,hkk,Qa,Qb,Qc,Qd,Qe,Qf,Qg,Qh,Qi,Qj,Qk,Ql,Qm,Qn,true_and,and_true,Qo,Qp,Qq,Qr,Qs,Qt,Qu,Qv,Qw,Qx,Qy,Qz,Ra,Rb,Rc,Rd,Re,Rf,Rg,Rh,Ri,Rj,Rk,Rl,Rm,Ya,Yb,Yc,Rn,Ro,Rp,Yd,Ye,Rq,Rs,Rt,Ru,Rv,Rw,Rx]
    exact hq s v4 us cs O _ _ _ _ _ _ _ _ _ _ hmd hdr hle hold
  | succ m ih =>
    intro i us cs O v4 s x6 x7 x8 x9 x10 x11 x12 x13 x14 hm hi hmd hdr hle hold
    have husl:=hmd.rows.1
    have l4:∀s',lenA Try.prog s' 22 v4=some (iv (cs.length:Int)):=fun s'=>by
      obtain⟨a',cap',rfl,_⟩:=hmd.dest.cells
      rw[← husl]
      exact len_slice Try.underlying22
    refine WC.loop' ?_
    by_cases hlt:i<bs.length
    · have hkk:decide ((i:Int)<(bs.length:Int))=true:=decide_eq_true (by omega)
      by_cases hmo:cs.length<most
      · have hmm : decide ((cs.length : Int) < (most : Int)) = true := decide_eq_true (by omega)
        have hx:bs[i]? = some bs[i]:=List.getElem?_eq_getElem hlt
        obtain⟨hx1,hx2⟩:=hbs bs[i] (List.getElem_mem _)
        obtain⟨p,o,rfl,hp,hload⟩:=hc i _ (get_u8vs hx)
        have e1:=idx_slice (cap:=cap) (i:=p) (o:=o) Try.underlying42 sz5 hlt
        have ld:loadV Try.prog s 5 (.ptr (some (p,o+i * 1)))=some (u8v bs[i]):=load_one ag5 (by rw[Nat.mul_one,load1_eq (hold.2 p (by omega))];exact hload)
        have e3:=bin_add Try.prog 3 (i:Int) 1 ⟨by omega,by omega⟩
        have e3':((i:Int)+1)=((i+1:Nat):Int):=by omega
        have q5:=bin_rem (P:=Try.prog) (t:=5) (k:=.u8) (a:=bs[i]) (b:=4) hx1 (by decide)
        have q6:convA Try.prog s 5 3 (u8v (bs[i] % 4))=some (iv (bs[i] % 4)):=conv_u8 ⟨by omega,by omega⟩
        have q7:=bin_add Try.prog 3 1 (bs[i] % 4) ⟨by omega,by omega⟩
        have q8:=bin_rem (P:=Try.prog) (t:=5) (k:=.u8) (a:=bs[i]) (b:=29) hx1 (by decide)
        have hsz:(1:Int)+bs[i] % 4=(((1+bs[i] % 4).toNat:Nat):Int):=by omega
        have hsz4:(1+bs[i] % 4).toNat≤4:=by omega
        generalize (1+bs[i] % 4).toNat=sz at hsz hsz4
        have hns:=hold.1
        have hcu:CellsAt s.next s (some (p,o)) (u8vs bs):=(hc.old hold hb).mono (Nat.le_trans hb hns)
        have hmv:∀ (m:Nat) (i:Nat),Made.val i (.slice m)=.slice (some (i,0)) m (some m):=fun _ _=>rfl
        have rest:∀ (size:Nat) (y11:AV),size≤4→WC E none (.loop c31l17) (InBlock 2 (seqK (Qa E none (.seq (.ops c31o18) (.cond (.var 14) (.ops c31o19) .skip)) (InBlock 1 (seqK (WC E none (.loop c31l20) Q) Q))) (InBlock 1 (seqK (WC E none (.loop c31l20) Q) Q)))) [iv (n:Int),.slice (some (p,o)) bs.length cap,iv (most:Int),v3,v4,iv ((i+1:Nat):Int),iv (size:Int),.slice none 0 (some 0),iv 0,x9,.bool true,y11,x12,x13,x14] [] s:=by
          intro size y11 hsize
          refine draw_loop hE (n1:=s.next) (Nat.le_refl _) hn0 hn hsize hbs hlen hcu _ _ _ _ _ size 0 (i+1) [] [] _ s _ _ _ rfl (Nat.zero_le _) hlt rfl (by simp) (Dest.nil s 1) ⟨(fun j hj=>by cases hj),(fun j hj=>by cases hj)⟩ (Old.refl _ _) ?_
          intro s1 v5 out O5 i' y8 y9 y12 y13 hi1 hi2 hV hol hd5 hO5 hold1
          have l5:∀s',lenA Try.prog s' 23 v5=some (iv (out.length:Int)):=fun s'=>by
            obtain⟨a',cap',rfl,_⟩:=hd5.cells
            exact len_slice Try.underlying23
          have noapp:∀ (y14:AV),WC E none (.loop c31l20) Q [iv (n:Int),.slice (some (p,o)) bs.length cap,iv (most:Int),v3,v4,iv (i':Int),iv (size:Int),v5,y8,y9,.bool true,y11,y12,y13,y14] [] s1:=fun y14=>by
            have hmd1:Made20 s0.next s1 v4 us cs O:=⟨hmd.dest.frame hold1.1 fun j hj=>hold1.2 j (hmd.dest.slot_lt j hj),(hmd.rows.keep fun u hu j hj=>hold1.2 j (hmd.slots u hu j hj).2.1).mono hold1.1,fun u hu j hj=>by obtain⟨g1,g2,g3⟩:=hmd.slots u hu j hj;exact⟨g1,by have:=hold1.1;omega,g3⟩,hmd.own⟩
            exact ih i' us cs O v4 s1 _ _ _ _ _ _ _ _ _ (by omega) hi2 hmd1 hdr hle (hold.trans (hold1.mono hns))
          have app:∀ (y14:AV),Qb E c31o19 (fun V s'=>WC E none (.loop c31l20) Q V [] s') [] [iv (n:Int),.slice (some (p,o)) bs.length cap,iv (most:Int),v3,v4,iv (i':Int),iv (size:Int),v5,y8,y9,.bool true,y11,y12,y13,y14] s1:=by
            intro y14
            have hv5:v5.cells=[v5]:=by obtain⟨a',c',rfl,_⟩:=hd5.cells;rfl
            have b1:=bld_one (P:=Try.prog) (t:=22) (v:=v5) Try.underlying22 sz23 zr23 rfl hv5
            have hslot:=hmd.dest.slot_lt
            have hd3:Dest s1 v4 us.length 1 us O:=hmd.dest.frame hold1.1 fun j hj=>hold1.2 j (hslot j hj)
            obtain⟨v',s2,O',p1,p2,p3,p4,p5⟩:=push_cell (st:=22) (e:=23) (by_:=24) Try.underlying22 sz23 by23 (by decide) (strx 22 23 Try.underlying22) zero23 hd3 (by omega) hd5.isSlice
            simp only[c31o19,b1,hmv,p1,Qa,Qb,Qc,Qd,Qe,Qf,Qg,Qh,Qi,Qj,Qk,Ql,Qm,Qn,true_and,and_true,Qo,Qp,Qq,Qr,Qs,Qt,Qu,Qv,Qw,Qx,Qy,Qz,Ra,Rb,Rc,Rd,Re,Rf,Rg,Rh,Ri,Rj,Rk,Rl,Rm,Ya,Yb,Yc,Rn,Ro,Rp,Yd,Ye,Rq,Rs,Rt,Ru,Rv,Rw,Rx]
            have hOlt:∀j∈O,j<s.next:=hmd.dest.lt
            have hs12:s1.next≤s2.next:=p3
            have hold2:Old s0.next s0 s2:=(hold.trans (hold1.mono hns)).trans ⟨p3,fun j hj=>p4 j (by have:=hold1.1;omega) (fun hm=>by have:=hmd.own j hm;omega)⟩
            have old_slot:∀u∈us,∀j,slot u=some j→s2.heap.get j=s.heap.get j:=by
              intro u hu j hj
              obtain⟨g1,g2,g3⟩:=hmd.slots u hu j hj
              rw[p4 j (by have:=hold1.1;omega) g3]
              exact hold1.2 j g2
            have v5_slot:∀j,slot v5=some j→s2.heap.get j=s1.heap.get j:=by
              intro j hj
              have h1:=hO5.2 j hj
              exact p4 j (hd5.slot_lt j hj) (fun hm=>by have:=hOlt j hm;omega)
            refine ih i' (us++[v5]) (cs++[out]) O' v' s2 _ _ _ _ _ _ _ _ _ (by omega) hi2 ⟨?_,?_,?_,?_⟩ (fun L hL=>?_) (by rw[List.length_append];simp;omega) hold2
            · rw[List.length_append];exact p2
            · refine((hmd.rows.keep old_slot).mono (Nat.le_trans hold1.1 hs12)).append (RowCells.one ?_)
              exact((hd5.slice).keep v5_slot).mono hs12
            · intro u hu j hj
              have hO'j:j<s1.next→j ∉ O→j ∉ O':=fun h1 h2 h3=>(p5 j h3).elim h2 (fun h=>by omega)
              rcases List.mem_append.1 hu with hu | hu
              · obtain⟨g1,g2,g3⟩:=hmd.slots u hu j hj
                exact⟨g1,by have:=hold1.1;omega,hO'j (by have:=hold1.1;omega) g3⟩
              · have:u=v5:=by simpa using hu
                subst this
                have h1:=hO5.2 j hj
                have h2:=hd5.slot_lt j hj
                exact⟨by omega,by omega,hO'j h2 (fun hm=>by have:=hOlt j hm;omega)⟩
            · intro j hj
              exact(p5 j hj).elim (hmd.own j) (fun h=>by have:=hold1.1;omega)
            · rcases List.mem_append.1 hL with h | h
              · exact hdr L h
              · rw[List.mem_singleton.1 h];exact⟨hV,hol⟩
          simp only[if_true,Qa,Qb,Qc,Qd,Qe,Qf,Qg,Qh,Qi,Qj,Qk,Ql,Qm,Qn,true_and,and_true,Qo,Qp,Qq,Qr,Qs,Qt,Qu,Qv,Qw,Qx,Qy,Qz,Ra,Rb,Rc,Rd,Re,Rf,Rg,Rh,Ri,Rj,Rk,Rl,Rm,Ya,Yb,Yc,Rn,Ro,Rp,Yd,Ye,Rq,Rs,Rt,Ru,Rv,Rw,Rx]
          by_cases hpos:0<out.length
          · have d1:decide ((0:Int)<(out.length:Int))=true:=decide_eq_true (by omega)
            simp only[c31o18,l5,d1,Qa,Qb,Qc,Qd,Qe,Qf,Qg,Qh,Qi,Qj,Qk,Ql,Qm,Qn,true_and,and_true,Qo,Qp,Qq,Qr,Qs,Qt,Qu,Qv,Qw,Qx,Qy,Qz,Ra,Rb,Rc,Rd,Re,Rf,Rg,Rh,Ri,Rj,Rk,Rl,Rm,Ya,Yb,Yc,Rn,Ro,Rp,Yd,Ye,Rq,Rs,Rt,Ru,Rv,Rw,Rx]
            have:=app (.bool true)
            simp only[c31o19,Qa,Qb,Qc,Qd,Qe,Qf,Qg,Qh,Qi,Qj,Qk,Ql,Qm,Qn,true_and,and_true,Qo,Qp,Qq,Qr,Qs,Qt,Qu,Qv,Qw,Qx,Qy,Qz,Ra,Rb,Rc,Rd,Re,Rf,Rg,Rh,Ri,Rj,Rk,Rl,Rm,Ya,Yb,Yc,Rn,Ro,Rp,Yd,Ye,Rq,Rs,Rt,Ru,Rv,Rw,Rx]at this ⊢
            exact this
          · have d1:decide ((0:Int)<(out.length:Int))=false:=decide_eq_false (by omega)
            by_cases hz:size=0
            · have d2 : decide ((size : Int) = 0) = true := decide_eq_true (by omega)
              have hlt':i' - 1<bs.length:=by omega
              have hx':bs[i' - 1]? = some bs[i' - 1]:=List.getElem?_eq_getElem hlt'
              obtain⟨p',o',ep,hp',hload'⟩:=hc (i' - 1) _ (get_u8vs hx')
              injection ep with ep
              injection ep with ep1 ep2
              subst ep1;subst ep2
              have e1':=idx_slice (cap:=cap) (i:=p) (o:=o) Try.underlying42 sz5 hlt'
              have ld':loadV Try.prog s1 5 (.ptr (some (p,o+(i' - 1) * 1)))=some (u8v bs[i' - 1]):=load_one ag5 (by rw[Nat.mul_one,load1_eq (hold1.2 p (by omega)),load1_eq (hold.2 p (by omega))];exact hload')
              have e5:=bin_sub Try.prog 3 (i':Int) 1 ⟨by omega,by omega⟩
              have e5':(i':Int) - 1=((i' - 1:Nat):Int):=by omega
              by_cases h7:bs[i' - 1]=7
              · simp only[c31o18,l5,d1,d2,e5,e5',e1',ld',bin_eql8,h7,decide_true,Qa,Qb,Qc,Qd,Qe,Qf,Qg,Qh,Qi,Qj,Qk,Ql,Qm,Qn,true_and,and_true,Qo,Qp,Qq,Qr,Qs,Qt,Qu,Qv,Qw,Qx,Qy,Qz,Ra,Rb,Rc,Rd,Re,Rf,Rg,Rh,Ri,Rj,Rk,Rl,Rm,Ya,Yb,Yc,Rn,Ro,Rp,Yd,Ye,Rq,Rs,Rt,Ru,Rv,Rw,Rx]
                have:=app (.bool true)
                simp only[c31o19,Qa,Qb,Qc,Qd,Qe,Qf,Qg,Qh,Qi,Qj,Qk,Ql,Qm,Qn,true_and,and_true,Qo,Qp,Qq,Qr,Qs,Qt,Qu,Qv,Qw,Qx,Qy,Qz,Ra,Rb,Rc,Rd,Re,Rf,Rg,Rh,Ri,Rj,Rk,Rl,Rm,Ya,Yb,Yc,Rn,Ro,Rp,Yd,Ye,Rq,Rs,Rt,Ru,Rv,Rw,Rx]at this ⊢
                exact this
              · simp only[c31o18,l5,d1,d2,e5,e5',e1',ld',bin_eql8,h7,decide_false,Qa,Qb,Qc,Qd,Qe,Qf,Qg,Qh,Qi,Qj,Qk,Ql,Qm,Qn,true_and,and_true,Qo,Qp,Qq,Qr,Qs,Qt,Qu,Qv,Qw,Qx,Qy,Qz,Ra,Rb,Rc,Rd,Re,Rf,Rg,Rh,Ri,Rj,Rk,Rl,Rm,Ya,Yb,Yc,Rn,Ro,Rp,Yd,Ye,Rq,Rs,Rt,Ru,Rv,Rw,Rx]
                exact noapp _
            · have d2:decide ((size:Int)=0)=false:=decide_eq_false (by omega)
              simp only[c31o18,l5,d1,d2,Qa,Qb,Qc,Qd,Qe,Qf,Qg,Qh,Qi,Qj,Qk,Ql,Qm,Qn,true_and,and_true,Qo,Qp,Qq,Qr,Qs,Qt,Qu,Qv,Qw,Qx,Qy,Qz,Ra,Rb,Rc,Rd,Re,Rf,Rg,Rh,Ri,Rj,Rk,Rl,Rm,Ya,Yb,Yc,Rn,Ro,Rp,Yd,Ye,Rq,Rs,Rt,Ru,Rv,Rw,Rx]
              exact noapp _
        generalize hW:WC E none (CCode.loop c31l20) Q=W at rest
        by_cases h29:bs[i] % 29=7
        · have:=rest 0 (.bool true) (by omega)
          simp only[c31l20,c31o3,len_slice Try.underlying42,hkk,l4,hmm,c31o4,e1,ld,q5,q6,q7,c31o5,q8,bin_eql8,h29,decide_true,c31o6,c31o7,e3,e3',c31o8,c31o9,Qa,Qb,Qc,Qd,Qe,Qf,Qg,Qh,Qi,Qj,Qk,Ql,Qm,Qn,true_and,and_true,Qo,Qp,Qq,Qr,Qs,Qt,Qu,Qv,Qw,Qx,Qy,Qz,Ra,Rb,Rc,Rd,Re,Rf,Rg,Rh,Ri,Rj,Rk,Rl,Rm,Ya,Yb,Yc,Rn,Ro,Rp,Yd,Ye,Rq,Rs,Rt,Ru,Rv,Rw,Rx]at this ⊢
          exact this
        · have:=rest sz (.bool false) hsz4
          simp only[c31l20,c31o3,len_slice Try.underlying42,hkk,l4,hmm,c31o4,e1,ld,q5,q6,q7,hsz,c31o5,q8,bin_eql8,h29,decide_false,c31o7,e3,e3',c31o8,c31o9,Qa,Qb,Qc,Qd,Qe,Qf,Qg,Qh,Qi,Qj,Qk,Ql,Qm,Qn,true_and,and_true,Qo,Qp,Qq,Qr,Qs,Qt,Qu,Qv,Qw,Qx,Qy,Qz,Ra,Rb,Rc,Rd,Re,Rf,Rg,Rh,Ri,Rj,Rk,Rl,Rm,Ya,Yb,Yc,Rn,Ro,Rp,Yd,Ye,Rq,Rs,Rt,Ru,Rv,Rw,Rx]at this ⊢
          exact this
      · have hmm:decide ((cs.length:Int)<(most:Int))=false:=decide_eq_false (by omega)
        simp only[c31l20,c31o3,len_slice Try.underlying42,hkk,l4,hmm,Qa,Qb,Qc,Qd,Qe,Qf,Qg,Qh,Qi,Qj,Qk,Ql,Qm,Qn,true_and,and_true,Qo,Qp,Qq,Qr,Qs,Qt,Qu,Qv,Qw,Qx,Qy,Qz,Ra,Rb,Rc,Rd,Re,Rf,Rg,Rh,Ri,Rj,Rk,Rl,Rm,Ya,Yb,Yc,Rn,Ro,Rp,Yd,Ye,Rq,Rs,Rt,Ru,Rv,Rw,Rx]
        exact hq s v4 us cs O _ _ _ _ _ _ _ _ _ _ hmd hdr hle hold
    · have hkk:decide ((i:Int)<(bs.length:Int))=false:=decide_eq_false (by omega)
      simp only[c31l20,c31o3,len_slice Try.underlying42,hkk,Qa,Qb,Qc,Qd,Qe,Qf,Qg,Qh,Qi,Qj,Qk,Ql,Qm,Qn,true_and,and_true,Qo,Qp,Qq,Qr,Qs,Qt,Qu,Qv,Qw,Qx,Qy,Qz,Ra,Rb,Rc,Rd,Re,Rf,Rg,Rh,Ri,Rj,Rk,Rl,Rm,Ya,Yb,Yc,Rn,Ro,Rp,Yd,Ye,Rq,Rs,Rt,Ru,Rv,Rw,Rx]
      exact hq s v4 us cs O _ _ _ _ _ _ _ _ _ _ hmd hdr hle hold
theorem drawn_ok{E:Env}(hE:Good E){s:ASt}{b n most:Nat}(hb:b≤s.next)(hn0:1≤n)(hn:n≤1000)(hmost:most≤1000){bs:List Int}(hbs:U8s bs)(hlen:bs.length<9223372036854775808){v:AV}(hv:SliceAt b s v (u8vs bs)):
    WF E 31 [iv (n:Int),v,iv (most:Int)] (fun r s'=>∃us cs O,Made20 s.next s' r us cs O∧Drawn n cs∧cs.length≤most∧Old s.next s s') s:=by
  obtain⟨a,cap,rfl,hc⟩:=hv
  have hl:(u8vs bs).length=bs.length:=List.length_map _
  rw[hl]
  refine hE.go comp31 (by decide) rfl ?_
  simp only[c31,c31o0,c31o1,c31o2,Qa,Qb,Qc,Qd,Qe,Qf,Qg,Qh,Qi,Qj,Qk,Ql,Qm,Qn,true_and,and_true,Qo,Qp,Qq,Qr,Qs,Qt,Qu,Qv,Qw,Qx,Qy,Qz,Ra,Rb,Rc,Rd,Re,Rf,Rg,Rh,Ri,Rj,Rk,Rl,Rm,Ya,Yb,Yc,Rn,Ro,Rp,Yd,Ye,Rq,Rs,Rt,Ru,Rv,Rw,Rx]
  refine drawn_loop hE hb hn0 hn hmost hbs hlen hc _ ?_ bs.length 0 [] [] [] _ s _ _ _ _ _ _ _ _ _ (by omega) (Nat.zero_le _) ⟨Dest.nil s 1,RowCells.nil _ _,(fun u hu=>by cases hu),(fun j hj=>by cases hj)⟩ (by simp[Drawn]) (Nat.zero_le _) (Old.refl _ _)
  intro s' v' us' cs' O' y5 y6 y7 y8 y9 y10 y11 y12 y13 y14 h1 h2 h3 h4
  simp only[if_true,c31o21,Qa,Qb,Qc,Qd,Qe,Qf,Qg,Qh,Qi,Qj,Qk,Ql,Qm,Qn,true_and,and_true,Qo,Qp,Qq,Qr,Qs,Qt,Qu,Qv,Qw,Qx,Qy,Qz,Ra,Rb,Rc,Rd,Re,Rf,Rg,Rh,Ri,Rj,Rk,Rl,Rm,Ya,Yb,Yc,Rn,Ro,Rp,Yd,Ye,Rq,Rs,Rt,Ru,Rv,Rw,Rx]
  exact⟨us',cs',O',h1,h2,h3,h4⟩
theorem Made20.rowsIn{lo:Nat}{s:ASt}{v:AV}{us:List AV}{cs:List (List Int)}{O:List Nat}(h:Made20 lo s v us cs O):RowsIn (fun j=>j<s.next) s v cs:=
  ⟨us,h.dest.slice,fun j hj=>h.dest.slot_lt j hj,h.rows,fun u hu j hj=>(h.slots u hu j hj).2.1⟩
theorem bld_pair(x y:Int):sliceRowA Try.prog 23 2 (zipIdx [0,1] [iv x,iv y])=some (mkRow 3 1 [iv x,iv y]):=by
  simp[sliceRowA,Try.underlying23,sz3,guardB,zr3,zipIdx,fillA,AV.cells,rep]
  rfl
theorem row_made{s:ASt}{L:List Int}(hL:L≠[]):SliceAt (s.next+1) (newObj s (mkRow 3 1 (ivs L))) (.slice (some (s.next,0)) L.length (some L.length)) (ivs L)∧∀j,slot (.slice (some (s.next,0)) L.length (some L.length))=some j→j=s.next:=by
  obtain⟨r,h1,h2,h3,h4,h5,h6⟩:=holds_mkRow 3 1 (ivs L)
  refine⟨⟨some (s.next,0),some L.length,by simp,fun k u hk=>⟨s.next,0,rfl,Nat.lt_succ_self _,?_⟩⟩,fun j hj=>?_⟩
  · rw[Nat.zero_add]
    exact load1_row (by rw[heap_new,if_pos rfl,h1]) (by rw[h2.1];exact lt_of_get hk) (h2.2 k u hk)
  · simp[slot]at hj
    exact hj.symm
theorem add_pair{E:Env}(hE:Good E){B:Nat→Prop}{s:ASt}{V:Nat→Option Sv}(h:Sols B s V){p:Nat}{v:Sv}(hp:V p=some v){n A:Nat}{F:List (List Int)}{M:Nat}(hI:SI n A F M v)(hbd:Bd n A M)(x y:Int)(hx:VL n x)(hy:VL n y){K:AV→ASt→Prop}
    (hK:∀s' v',SI n (A+1) (F++[[x,y]]) M v'→Sols B s' (setV V p v')→Keep B s s'→K (iv 0) s'):
    WF E 36 [.ptr (some (p,0)),.slice (some (s.next,0)) 2 (some 2)] K (newObj s (mkRow 3 1 [iv x,iv y])):=by
  have ho:=Old.new s (mkRow 3 1 [iv x,iv y])
  have h1:=h.old ho
  obtain⟨g1,g2⟩:=row_made (s:=s) (L:=[x,y]) (by simp)
  have hk1:=Keep.old h ho
  have hadd:=sols_add hE h1 hp hI hbd (f:=[x,y]) (fun q hq=>by
    rcases List.mem_cons.1 hq with e | e
    · rw[e];exact hx
    · rw[List.mem_singleton.1 e];exact hy) (by simp) (b:=s.next+1) (Nat.le_refl _) g1 (fun j hj=>by rw[g2 j hj];exact .inr ⟨Nat.le_refl _,Nat.lt_succ_self _⟩)
  refine hadd.mono ?_
  rintro _ s' ⟨rfl,v',q1,q2,q3,q4⟩
  exact hK s' v' q1 (q3.less fun j hj=>.inl hj) (hk1.trans (q4.mono fun j hj=>.inl hj))
theorem sat1{σ:Nat→Bool}:(Sat σ 1↔σ 1=true)∧(Sat σ 2↔σ 2=true)∧(Sat σ (-1)↔σ 1=false)∧(Sat σ (-2)↔σ 2=false):=by
  unfold Sat
  refine⟨⟨?_,fun h=>.inl ⟨by decide,h⟩⟩,⟨?_,fun h=>.inl ⟨by decide,h⟩⟩,⟨?_,fun h=>.inr ⟨by decide,h⟩⟩,⟨?_,fun h=>.inr ⟨by decide,h⟩⟩⟩<;>rintro(⟨a,b⟩ | ⟨a,b⟩)<;>first | exact b | omega
theorem models4{σ:Nat→Bool}:Models σ [[1,2],[-1,2],[1,-2]]↔σ 1=true∧σ 2=true:=by
  obtain⟨a,b,c,d⟩:=sat1 (σ:=σ)
  have e:Models σ [[1,2],[-1,2],[1,-2]]↔(Sat σ 1∨Sat σ 2)∧(Sat σ (-1)∨Sat σ 2)∧(Sat σ 1∨Sat σ (-2)):=by simp[Models]
  rw[e,a,b,c,d]
  cases σ 1<;>cases σ 2<;>simp
theorem models5{σ:Nat→Bool}:¬ Models σ [[1,2],[-1,2],[1,-2],[-1,-2]]:=by
  obtain⟨a,b,c,d⟩:=sat1 (σ:=σ)
  have e:Models σ [[1,2],[-1,2],[1,-2],[-1,-2]]↔(Sat σ 1∨Sat σ 2)∧(Sat σ (-1)∨Sat σ 2)∧(Sat σ 1∨Sat σ (-2))∧(Sat σ (-1)∨Sat σ (-2)):=by simp[Models]
  rw[e,a,b,c,d]
  cases σ 1<;>cases σ 2<;>simp
theorem works_ok{E:Env}(hE:Good E){B:Nat→Prop}{s:ASt}{V:Nat→Option Sv}(h:Sols B s V):WF E 37 [] (fun r s'=>r=.bool true∧Keep B s s') s:=by
  have hms:∀ (m:Nat) (i:Nat),Made.val i (.slice m)=.slice (some (i,0)) m (some m):=fun _ _=>rfl
  have hVL:VL 2 1∧VL 2 2∧VL 2 (-1)∧VL 2 (-2):=by decide
  obtain⟨w1,w2,w3,w4⟩:=hVL
  refine hE.go comp37 (by decide) rfl ?_
  simp only[c37,c37o0,c37o1,Qa,Qb,Qc,Qd,Qe,Qf,Qg,Qh,Qi,Qj,Qk,Ql,Qm,Qn,true_and,and_true,Qo,Qp,Qq,Qr,Qs,Qt,Qu,Qv,Qw,Qx,Qy,Qz,Ra,Rb,Rc,Rd,Re,Rf,Rg,Rh,Ri,Rj,Rk,Rl,Rm,Ya,Yb,Yc,Rn,Ro,Rp,Yd,Ye,Rq,Rs,Rt,Ru,Rv,Rw,Rx]
  refine(sols_new hE h (n:=2) (by decide)).mono ?_
  rintro _ s1 ⟨va,rfl,hVn,g1,k1,i1,_⟩
  generalize hp:s.next=p at *
  obtain⟨j1,j2,_,_⟩:=i1.inv ⟨by decide,by decide,.inr (by decide)⟩
  have hvars:=sols_vars hE g1 (setV_same V p va) (n:=2) (by decide) j1.fit.siz.value
  have bd:∀A M,A≤10→Bd 2 A M:=fun A M hA=>⟨by decide,by omega,.inl (by decide)⟩
  have e2:iv ((2:Nat):Int)=iv 2:=rfl
  have hd2:decide ((2:Int)≠2)=false:=by decide
  have h729:∀ (a:Int),iv ((729:Nat):Int)=iv 729:=fun _=>rfl
  simp only[ptrA,e2]at hvars
  simp only[c37o2,ptrA,Qa,Qb,Qc,Qd,Qe,Qf,Qg,Qh,Qi,Qj,Qk,Ql,Qm,Qn,true_and,and_true,Qo,Qp,Qq,Qr,Qs,Qt,Qu,Qv,Qw,Qx,Qy,Qz,Ra,Rb,Rc,Rd,Re,Rf,Rg,Rh,Ri,Rj,Rk,Rl,Rm,Ya,Yb,Yc,Rn,Ro,Rp,Yd,Ye,Rq,Rs,Rt,Ru,Rv,Rw,Rx]
  refine hvars.mono ?_
  rintro _ _ ⟨rfl,rfl⟩
  have hs1:=sols_solve hE g1 (setV_same V p va) i1 (bd 0 (0+729) (by decide)) (most:=729) (by decide) (by simp)
  simp only[ptrA]at hs1
  simp only[hd2,Qa,Qb,Qc,Qd,Qe,Qf,Qg,Qh,Qi,Qj,Qk,Ql,Qm,Qn,true_and,and_true,Qo,Qp,Qq,Qr,Qs,Qt,Qu,Qv,Qw,Qx,Qy,Qz,Ra,Rb,Rc,Rd,Re,Rf,Rg,Rh,Ri,Rj,Rk,Rl,Rm,Ya,Yb,Yc,Rn,Ro,Rp,Yd,Ye,Rq,Rs,Rt,Ru,Rv,Rw,Rx]
  refine hs1.mono ?_
  rintro _ s2 ⟨c,v2,rfl,i2,_,hc,g2,k2⟩
  have hc1:c=1:=by
    rcases hc with⟨_,q⟩ | ⟨q,_⟩ | ⟨_,q,_⟩
    · exact absurd (fun f hf=>by cases hf) (q fun _=>true)
    · exact q
    · exact absurd (q (by decide)) (by decide)
  subst hc1
  rw[setV_set]at g2
  have hd1:decide ((1:Int)≠1)=false:=by decide
  simp only[hd1,c37o4,bld_pair,hms,Qa,Qb,Qc,Qd,Qe,Qf,Qg,Qh,Qi,Qj,Qk,Ql,Qm,Qn,true_and,and_true,Qo,Qp,Qq,Qr,Qs,Qt,Qu,Qv,Qw,Qx,Qy,Qz,Ra,Rb,Rc,Rd,Re,Rf,Rg,Rh,Ri,Rj,Rk,Rl,Rm,Ya,Yb,Yc,Rn,Ro,Rp,Yd,Ye,Rq,Rs,Rt,Ru,Rv,Rw,Rx]
  refine add_pair hE g2 (setV_same V p v2) i2 (bd _ _ (by decide)) 1 2 w1 w2 ?_
  intro s3 v3 i3 g3 k3
  rw[setV_set]at g3
  simp only[c37o5,bld_pair,hms,Qa,Qb,Qc,Qd,Qe,Qf,Qg,Qh,Qi,Qj,Qk,Ql,Qm,Qn,true_and,and_true,Qo,Qp,Qq,Qr,Qs,Qt,Qu,Qv,Qw,Qx,Qy,Qz,Ra,Rb,Rc,Rd,Re,Rf,Rg,Rh,Ri,Rj,Rk,Rl,Rm,Ya,Yb,Yc,Rn,Ro,Rp,Yd,Ye,Rq,Rs,Rt,Ru,Rv,Rw,Rx]
  refine add_pair hE g3 (setV_same V p v3) i3 (bd _ _ (by decide)) (-1) 2 w3 w2 ?_
  intro s4 v4 i4 g4 k4
  rw[setV_set]at g4
  simp only[c37o6,bld_pair,hms,Qa,Qb,Qc,Qd,Qe,Qf,Qg,Qh,Qi,Qj,Qk,Ql,Qm,Qn,true_and,and_true,Qo,Qp,Qq,Qr,Qs,Qt,Qu,Qv,Qw,Qx,Qy,Qz,Ra,Rb,Rc,Rd,Re,Rf,Rg,Rh,Ri,Rj,Rk,Rl,Rm,Ya,Yb,Yc,Rn,Ro,Rp,Yd,Ye,Rq,Rs,Rt,Ru,Rv,Rw,Rx]
  refine add_pair hE g4 (setV_same V p v4) i4 (bd _ _ (by decide)) 1 (-2) w1 w4 ?_
  intro s5 v5 i5 g5 k5
  rw[setV_set]at g5
  have hs2:=sols_solve hE g5 (setV_same V p v5) i5 (bd _ _ (by decide)) (most:=729) (by decide) (by simp;exact⟨⟨w1,w2⟩,⟨w3,w2⟩,w1,w4⟩)
  simp only[ptrA]at hs2
  simp only[c37o7,Qa,Qb,Qc,Qd,Qe,Qf,Qg,Qh,Qi,Qj,Qk,Ql,Qm,Qn,true_and,and_true,Qo,Qp,Qq,Qr,Qs,Qt,Qu,Qv,Qw,Qx,Qy,Qz,Ra,Rb,Rc,Rd,Re,Rf,Rg,Rh,Ri,Rj,Rk,Rl,Rm,Ya,Yb,Yc,Rn,Ro,Rp,Yd,Ye,Rq,Rs,Rt,Ru,Rv,Rw,Rx]
  refine hs2.mono ?_
  rintro _ s6 ⟨c,v6,rfl,i6,_,hc,g6,k6⟩
  have hc1:c=1∧v6.model.length=2+1∧Models (tells v6.model) [[1,2],[-1,2],[1,-2]]:=by
    rcases hc with⟨_,q⟩ | ⟨q1,q2,q3⟩ | ⟨_,q,_⟩
    · exact absurd (models4.2 ⟨rfl,rfl⟩) (q fun _=>true)
    · exact⟨q1,q2,q3⟩
    · exact absurd (q (by decide)) (by decide)
  obtain⟨rfl,hml,hmm⟩:=hc1
  obtain⟨t1,t2⟩:=models4.1 hmm
  rw[setV_set]at g6
  have hv1:=sols_value hE g6 (setV_same V p v6) (k:=1) (by decide)
  have hv2:=sols_value hE g6 (setV_same V p v6) (k:=2) (by decide)
  have ev1:iv ((1:Nat):Int)=iv 1:=rfl
  simp only[ptrA,ev1,t1]at hv1
  simp only[ptrA,e2,t2]at hv2
  simp only[decide_true,Qa,Qb,Qc,Qd,Qe,Qf,Qg,Qh,Qi,Qj,Qk,Ql,Qm,Qn,true_and,and_true,Qo,Qp,Qq,Qr,Qs,Qt,Qu,Qv,Qw,Qx,Qy,Qz,Ra,Rb,Rc,Rd,Re,Rf,Rg,Rh,Ri,Rj,Rk,Rl,Rm,Ya,Yb,Yc,Rn,Ro,Rp,Yd,Ye,Rq,Rs,Rt,Ru,Rv,Rw,Rx]
  refine hv1.mono ?_
  rintro _ _ ⟨rfl,rfl⟩
  simp only[Qa,Qb,Qc,Qd,Qe,Qf,Qg,Qh,Qi,Qj,Qk,Ql,Qm,Qn,true_and,and_true,Qo,Qp,Qq,Qr,Qs,Qt,Qu,Qv,Qw,Qx,Qy,Qz,Ra,Rb,Rc,Rd,Re,Rf,Rg,Rh,Ri,Rj,Rk,Rl,Rm,Ya,Yb,Yc,Rn,Ro,Rp,Yd,Ye,Rq,Rs,Rt,Ru,Rv,Rw,Rx]
  refine hv2.mono ?_
  rintro _ _ ⟨rfl,rfl⟩
  simp only[c37o8,bld_pair,hms,Qa,Qb,Qc,Qd,Qe,Qf,Qg,Qh,Qi,Qj,Qk,Ql,Qm,Qn,true_and,and_true,Qo,Qp,Qq,Qr,Qs,Qt,Qu,Qv,Qw,Qx,Qy,Qz,Ra,Rb,Rc,Rd,Re,Rf,Rg,Rh,Ri,Rj,Rk,Rl,Rm,Ya,Yb,Yc,Rn,Ro,Rp,Yd,Ye,Rq,Rs,Rt,Ru,Rv,Rw,Rx]
  refine add_pair hE g6 (setV_same V p v6) i6 (bd _ _ (by decide)) (-1) (-2) w3 w4 ?_
  intro s7 v7 i7 g7 k7
  rw[setV_set]at g7
  simp only[c37o9,Qa,Qb,Qc,Qd,Qe,Qf,Qg,Qh,Qi,Qj,Qk,Ql,Qm,Qn,true_and,and_true,Qo,Qp,Qq,Qr,Qs,Qt,Qu,Qv,Qw,Qx,Qy,Qz,Ra,Rb,Rc,Rd,Re,Rf,Rg,Rh,Ri,Rj,Rk,Rl,Rm,Ya,Yb,Yc,Rn,Ro,Rp,Yd,Ye,Rq,Rs,Rt,Ru,Rv,Rw,Rx]
  refine(sols_new hE g7 (n:=0) (by decide)).mono ?_
  rintro _ s8 ⟨vb,rfl,hVb,g8,k8,i8,_⟩
  generalize hpb:s7.next=q at *
  have hpq:p≠q:=fun e=>by rw[← e,setV_same]at hVb;cases hVb
  have bd0:∀A M,A≤10→Bd 0 A M:=fun A M hA=>⟨by decide,by omega,.inl (by decide)⟩
  have hadd:=sols_add hE g8 (setV_same _ q vb) i8 (bd0 _ _ (by decide)) (f:=[]) (by simp) (by simp) (b:=0) (u:=.slice none 0 (some 0)) (Nat.zero_le _) ⟨none,some 0,rfl,CellsAt.nil⟩ (fun j hj=>by cases hj)
  simp only[ptrA]at hadd
  simp only[c37o10,Qa,Qb,Qc,Qd,Qe,Qf,Qg,Qh,Qi,Qj,Qk,Ql,Qm,Qn,true_and,and_true,Qo,Qp,Qq,Qr,Qs,Qt,Qu,Qv,Qw,Qx,Qy,Qz,Ra,Rb,Rc,Rd,Re,Rf,Rg,Rh,Ri,Rj,Rk,Rl,Rm,Ya,Yb,Yc,Rn,Ro,Rp,Yd,Ye,Rq,Rs,Rt,Ru,Rv,Rw,Rx]
  refine hadd.mono ?_
  rintro _ s9 ⟨rfl,v9,i9,_,g9,k9⟩
  rw[setV_set]at g9
  have hpV:setV (setV V p v7) q v9 p=some v7:=by rw[setV_ne hpq];exact setV_same _ _ _
  have hs3:=sols_solve hE g9 hpV i7 (bd _ _ (by decide)) (most:=729) (by decide) (by simp;exact⟨⟨w1,w2⟩,⟨w3,w2⟩,⟨w1,w4⟩,w3,w4⟩)
  simp only[ptrA]at hs3
  simp only[c37o11,Qa,Qb,Qc,Qd,Qe,Qf,Qg,Qh,Qi,Qj,Qk,Ql,Qm,Qn,true_and,and_true,Qo,Qp,Qq,Qr,Qs,Qt,Qu,Qv,Qw,Qx,Qy,Qz,Ra,Rb,Rc,Rd,Re,Rf,Rg,Rh,Ri,Rj,Rk,Rl,Rm,Ya,Yb,Yc,Rn,Ro,Rp,Yd,Ye,Rq,Rs,Rt,Ru,Rv,Rw,Rx]
  refine hs3.mono ?_
  rintro _ s10 ⟨c,v10,rfl,_,_,hc,g10,k10⟩
  have hc0:c=0:=by
    rcases hc with⟨q,_⟩ | ⟨_,_,q⟩ | ⟨_,q,_⟩
    · exact q
    · exact absurd q models5
    · exact absurd (q (by decide)) (by decide)
  subst hc0
  have hqV:setV (setV (setV V p v7) q v9) p v10 q=some v9:=by rw[setV_ne (fun e=>hpq e.symm)];exact setV_same _ _ _
  have hs4:=sols_solve hE g10 hqV i9 (bd0 _ _ (by decide)) (most:=0) (by decide) (by simp)
  have e0:iv ((0:Nat):Int)=iv 0:=rfl
  simp only[ptrA,e0]at hs4
  simp only[decide_true,Qa,Qb,Qc,Qd,Qe,Qf,Qg,Qh,Qi,Qj,Qk,Ql,Qm,Qn,true_and,and_true,Qo,Qp,Qq,Qr,Qs,Qt,Qu,Qv,Qw,Qx,Qy,Qz,Ra,Rb,Rc,Rd,Re,Rf,Rg,Rh,Ri,Rj,Rk,Rl,Rm,Ya,Yb,Yc,Rn,Ro,Rp,Yd,Ye,Rq,Rs,Rt,Ru,Rv,Rw,Rx]
  refine hs4.mono ?_
  rintro _ s11 ⟨c,v11,rfl,_,_,hc,g11,k11⟩
  have hc0:c=0:=by
    rcases hc with⟨q,_⟩ | ⟨_,_,q⟩ | ⟨_,_,q⟩
    · exact q
    · obtain⟨y,hy,_⟩:=q [] (by simp)
      cases hy
    · exact absurd (by simp) q
  subst hc0
  simp only[decide_true,Qa,Qb,Qc,Qd,Qe,Qf,Qg,Qh,Qi,Qj,Qk,Ql,Qm,Qn,true_and,and_true,Qo,Qp,Qq,Qr,Qs,Qt,Qu,Qv,Qw,Qx,Qy,Qz,Ra,Rb,Rc,Rd,Re,Rf,Rg,Rh,Ri,Rj,Rk,Rl,Rm,Ya,Yb,Yc,Rn,Ro,Rp,Yd,Ye,Rq,Rs,Rt,Ru,Rv,Rw,Rx]
  exact((((((((((k1.trans k2).trans k3).trans k4).trans k5).trans k6).trans k7).trans k8).trans k9).trans k10).trans k11)
def u16(n:Int):Prop:=0≤n∧n≤65535
theorem Drawn.fits{n:Nat}{cs:List (List Int)}(h:Drawn n cs):(∀L∈cs,(∀x∈L,VL n x)∧L.length≤12)∧(∀L∈cs,(∀x∈L,VL n x)∧L.length≤1000000)∧∀f∈cs,∀y∈f,VL n y:=
  ⟨fun L hL=>⟨(h L hL).1,by have:=(h L hL).2;omega⟩,fun L hL=>⟨(h L hL).1,by have:=(h L hL).2;omega⟩,fun f hf=>(h f hf).1⟩
theorem vars_drawn{s:ASt}{d:Int}(hd:u8 d){k:Int}(hk:0<k∧k≤100):∃n:Nat,1≤n∧n≤k.toNat∧binA Try.prog .rem 5 (u8v d) (u8v k)=some (u8v (d % k))∧convA Try.prog s 5 3 (u8v (d % k))=some (iv (d % k))∧binA Try.prog .add 3 (iv 1) (iv (d % k))=some (iv (n:Int)):=by
  obtain⟨h1,h2⟩:=hd
  have r1:=Int.emod_nonneg d (show k≠0 by omega)
  have r2:=Int.emod_lt_of_pos d (show(0:Int)<k by omega)
  refine⟨(1+d % k).toNat,by omega,by omega,bin_rem (P:=Try.prog) (t:=5) (k:=.u8) h1 (by omega),conv_u8 ⟨by omega,by omega⟩,?_⟩
  rw[bin_add Try.prog 3 1 (d % k) ⟨by omega,by omega⟩]
  congr 2
  omega
theorem arg_int{t:TypeId}{k:IntKind}(ht:Try.prog.underlying t=some (.int k)){W:World}{base:Nat}{v:Value}(h:Value.okWide Try.prog W .any base t v){ρ:Rho}{a:AV}(hr:VRels ρ [a] v.cells.toList):VRel ρ a v:=by
  have hv:v.cells.toList=[v]:=by
    cases v with
    | agg cs=>simp[Value.okWide,ht,Cell.okWide,Cell.ok]at h
    | _=>rfl
  rw[hv]at hr
  cases hr with
  | cons h _=>exact h
section
variable{H:Type}{enc:TypeId×Value→H}{W:World}{base:Nat}
theorem enter_ub{v0 v1:Value}(h0:Value.okWide Try.prog W .any base 5 v0)(h1:Value.okWide Try.prog W .any base 42 v1)
    {d0 d1:DataW H} {p0 p1:List MemPlace} (t0:DataW.Trod enc Try.prog W 0 (fun _=>true) true 5 v0 d0 p0) (t1:DataW.Trod enc Try.prog W 0 (fun _=>true) true 42 v1 d1 p1):
    ∃ (ρ:Rho) (s:ASt) (d:Int) (u:AV) (bs:List Int),Door Try.prog W ρ s∧VRel ρ (u8v d) v0∧VRel ρ u v1∧u8 d∧SliceAt s.next s u (u8vs bs)∧U8s bs∧bs.length<9223372036854775808:=by
  obtain⟨n0,t0⟩:=t0
  obtain⟨n1,t1⟩:=t1
  obtain⟨ρ1,s1,us1,d,g1,g2,g3,g4,rfl,g5⟩:=enter_num (q:=u8) Try.underlying5 (fun n h=>wf_u8 h) n0 _ _ t0 _ _ (door0 Try.prog W)
  obtain⟨ρ2,s2,us2,bs,k1,k2,k3,k4,k5⟩:=enter_nums (q:=u8) Try.underlying42 Try.underlying5 co5 (fun n h=>wf_u8 h) t1 (fun a ha=>size_pos Try.underlying42 h1 a ha) g1
  obtain⟨u,rfl,q1,q2,q3⟩:=sliceIn_at k5
  exact⟨ρ2,s2,d,u,bs,k1,arg_int Try.underlying5 h0 (g4.mono k2),arg_rel Try.underlying42 h1 k4,g5,q1,q2,q3⟩
end
theorem Keep.toOld{b:Nat}{s s':ASt}(h:Keep (fun j=>j<s.next) s s')(hb:b≤s.next):Old b s s':=⟨h.1,fun j hj=>h.2 j (Nat.lt_of_lt_of_le hj hb)⟩
theorem take_snoc{α:Type}{l:List α}{k:Nat}{x:α}(h:l[k]? = some x):l.take (k+1)=l.take k++[x]:=by
  have hlt:=lt_of_get h
  rw[List.take_succ_eq_append_getElem hlt]
  rw[List.getElem?_eq_getElem hlt]at h
  injection h with h
  rw[h]
theorem RowAt.put{s:ASt}{i k:Nat}{cs:List AV}{u:AV}(h:RowAt s i cs)(hk:k<cs.length){t:TypeId}(ht:sizeT Try.prog t=some 1)(h1:u.isCell=true)(h2:u.cells=[u]):
    ∃s',storeV Try.prog s t (.ptr (some (i,0+k * 1))) u=some s'∧RowAt s' i (cs.set k u)∧s'.next=s.next∧∀x,x≠i→s'.heap.get x=s.heap.get x:=by
  obtain⟨s',g1,g2,g3,g4⟩:=h.fill (o:=k) (vs:=[u]) (by simp) (by simp;omega) (by simp[allCells,h1])
  refine⟨s',?_,?_,g3,g4⟩
  · simp[storeV,ht,h2,guardB,g1]
  · rw[show cs.set k u=cs.take k++[u]++cs.drop (k+[u].length) by rw[List.append_assoc];simp[List.set_eq_take_append_cons_drop,hk]]
    exact g2
def Cell27(lo:Nat)(s:ASt)(O:List Nat)(u:AV):Prop:=(∃d,u=.bool d)∨(∃a c,u=.slice a 0 c)∨∃ (L:List Int)(i:Nat),u=.slice (some (i,0)) L.length none∧RowAt s i (ivs L)∧lo≤i∧i<s.next∧i ∉ O
structure MadeS(lo:Nat)(s:ASt)(v:AV)(us:List AV)(T:Trace20)(O:List Nat):Prop where
  dest:Dest s v T.length 2 us O
  rows:LineCells s.next s us T
  cell:∀u∈us,Cell27 lo s O u
  own:∀j∈O,lo≤j
theorem Cell27.keep{lo:Nat}{s s':ASt}{O O':List Nat}{u:AV}(h:Cell27 lo s O u)(hn:s.next≤s'.next)(k:∀j,j<s.next→j ∉ O→s'.heap.get j=s.heap.get j∧j ∉ O'):Cell27 lo s' O' u:=by
  rcases h with h | h | ⟨L,i,h1,h2,h3,h4,h5⟩
  · exact .inl h
  · exact .inr (.inl h)
  · exact .inr (.inr ⟨L,i,h1,h2.keep (k i h4 h5).1,h3,by omega,(k i h4 h5).2⟩)
theorem Cell27.reads{lo:Nat}{s s':ASt}{O:List Nat}{u:AV}(h:Cell27 lo s O u){b:Nat}{L:List Int}(hu:SliceAt b s u (ivs L))(k:∀j,j<s.next→j ∉ O→s'.heap.get j=s.heap.get j):SliceAt b s' u (ivs L):=by
  rcases h with⟨d,rfl⟩ | ⟨a,c,rfl⟩ | ⟨L',i,rfl,h2,h3,h4,h5⟩
  · obtain⟨_,_,e,_⟩:=hu
    cases e
  · obtain⟨a',c',e,_⟩:=hu
    injection e with e1 e2 e3
    have:L=[]:=by
      rw[List.length_map]at e2
      exact List.length_eq_zero_iff.1 e2.symm
    subst this
    exact⟨a,c,rfl,CellsAt.nil⟩
  · exact hu.keep fun j hj=>by
      simp[slot]at hj
      subst hj
      exact k _ h4 h5
theorem LineCells.via{lo b:Nat}{s s':ASt}{us:List AV}{T:Trace20}{O:List Nat}(h:LineCells b s us T)(hc:∀u∈us,Cell27 lo s O u)(k:∀j,j<s.next→j ∉ O→s'.heap.get j=s.heap.get j):LineCells b s' us T:=
  ⟨h.1,fun j d L hj=>let ⟨h0,u,h1,h2⟩:=h.2 j d L hj;⟨h0,u,h1,(hc u (List.mem_of_getElem? h1)).reads h2 k⟩⟩
theorem IntArr.cell{lo:Nat}{s:ASt}{v:AV}{L:List Int}(h:IntArr lo s v L){O:List Nat}(hO:∀j∈O,j<lo){lo':Nat}(hl:lo'≤lo):Cell27 lo' s O v:=by
  rcases h with⟨a,e,_⟩ | ⟨i,e,h1,h2,h3⟩
  · exact .inr (.inl ⟨a,_,e⟩)
  · exact .inr (.inr ⟨L,i,e,h3,by omega,h2,fun q=>by have:=hO i q;omega⟩)
theorem MadeS.old {lo : Nat} {s s' : ASt} {v : AV} {us : List AV} {T : Trace20} {O : List Nat} (h : MadeS lo s v us T O) (ho : Old s.next s s') : MadeS lo s' v us T O :=
  ⟨h.dest.frame ho.1 fun j hj=>ho.2 j (by
      rcases h.dest with⟨a,rfl,_,_,_,h5⟩ | ⟨i,p,rfl,h6,h7⟩
      · cases a with
        | none=>cases hj
        | some io =>
          obtain⟨i,o⟩:=io
          simp[slot]at hj
          subst hj
          exact(h5 _ _ rfl).1
      · simp [slot] at hj
        subst hj
        exact h.dest.lt _ (by rw[h7];simp)),(h.rows.mono ho.1).via (fun u hu=>h.cell u hu) fun j hj _=>ho.2 j hj,fun u hu=>(h.cell u hu).keep ho.1 fun j hj hO=>⟨ho.2 j hj,hO⟩,h.own⟩
theorem push_lineS {lo : Nat} {s : ASt} {v : AV} {us : List AV} {T : Trace20} {O : List Nat} (hm : MadeS lo s v us T O) (hT : T.length ≤ 1000000) {d : Bool} {u : AV} {L : List Int} (hu : SliceAt s.next s u (ivs L)) (hcell : Cell27 lo s O u) (hlo : lo ≤ s.next) :
    ∃v' s' O',appendA Try.prog (newObj s (mkRow 27 2 [.bool d,u])) [33,33] [v,.slice (some (s.next,0)) 1 (some 1)]=some (v',s')∧MadeS lo s' v' (us++[.bool d,u]) (T++[(d,L)]) O'∧Old lo s s':=by
  have c1:=src_one (P:=Try.prog) (e:=27) (s:=newObj s (mkRow 27 2 [.bool d,u])) (n:=1) (cap:=some 1) (sz:=2) 27 2 (by rw[heap_new,if_pos rfl]) rfl
  obtain⟨v',s',O',h1,h2,h3,h4,h5,h6,h7⟩:=(hm.dest.new (mkRow 27 2 [.bool d,u])).append (P:=Try.prog) (st:=33) (xt:=33) Try.underlying33 sz27 by27 (by decide) (strx 33 27 Try.underlying33) zero27 c1 rfl (by have:=hu.isCell.1;simp only[allCells,this];rfl) (by omega) (by omega)
  have hn:(newObj s (mkRow 27 2 [.bool d,u])).next=s.next+1:=rfl
  have keep:∀j,j<s.next→j ∉ O→s'.heap.get j=s.heap.get j:=fun j hj ho=>by rw[h5 j (by omega) ho,heap_new,if_neg (by omega)]
  have hO':∀j,j<s.next→j ∉ O→j ∉ O':=fun j h1 h2 h3=>(h6 j h3).elim h2 (fun h=>by omega)
  refine⟨v',s',O',h1,⟨?_,?_,?_,?_⟩,⟨by omega,fun j hj=>keep j (by omega) (fun h=>by have:=hm.own j h;omega)⟩⟩
  · rw[List.length_append];exact h2
  · exact((hm.rows.via hm.cell keep).mono (by omega)).snoc ((hcell.reads hu keep).mono (by omega))
  · intro x hx
    rcases List.mem_append.1 hx with hx | hx
    · exact(hm.cell x hx).keep (by omega) fun j hj ho=>⟨keep j hj ho,hO' j hj ho⟩
    · rcases List.mem_cons.1 hx with rfl | hx
      · exact .inl ⟨d,rfl⟩
      · have:x=u:=by simpa using hx
        subst this
        exact hcell.keep (by omega) fun j hj ho=>⟨keep j hj ho,hO' j hj ho⟩
  · intro j hj
    exact(h6 j hj).elim (hm.own j) (fun h=>by omega)
theorem trace_loop{E:Env}(hE:Good E){s0:ASt}{v4:AV}{T:Trace20}{b:Nat}(hT:TraceAt b s0 v4 T)(hb:b≤s0.next)(hlen:T.length≤1000000)(hL:∀x∈T,x.2.length≤1000000)(v0 v3:AV){Q:ARes→Prop}
    (hq:∀s' v' us' O' y2 y6 y7,MadeS s0.next s' v' us' T O'→Old s0.next s0 s'→Q ⟨.exit 0,[v0,v',y2,v3,v4,iv (T.length:Int),y6,y7],[],s'⟩):
    ∀ (t:Trace20) (k:Nat) (s:ASt) (v:AV) (us:List AV) (O:List Nat) (x2 x7:AV),T.drop k=t→k≤T.length→MadeS s0.next s v us (T.take k) O→Old s0.next s0 s →
      WC E none (.loop c43l8) Q [v0,v,x2,v3,v4,iv (T.length:Int),iv (k:Int),x7] [] s:=by
  intro t
  induction t with
  | nil =>
    intro k s v us O x2 x7 hd hk hm ho
    have:=drop_end hd hk
    subst this
    rw[List.take_length]at hm
    refine WC.loop' ?_
    simp only[c43l8,c43o4,Int.lt_irrefl,decide_false,Qa,Qb,Qc,Qd,Qe,Qf,Qg,Qh,Qi,Qj,Qk,Ql,Qm,Qn,true_and,and_true,Qo,Qp,Qq,Qr,Qs,Qt,Qu,Qv,Qw,Qx,Qy,Qz,Ra,Rb,Rc,Rd,Re,Rf,Rg,Rh,Ri,Rj,Rk,Rl,Rm,Ya,Yb,Yc,Rn,Ro,Rp,Yd,Ye,Rq,Rs,Rt,Ru,Rv,Rw,Rx]
    exact hq s v us O _ _ _ hm ho
  | cons x t ih =>
    intro k s v us O x2 x7 hd hk hm ho
    obtain⟨d,L⟩:=x
    obtain⟨hlt,hx,hd'⟩:=drop_facts hd
    have hkk:decide ((k:Int)<(T.length:Int))=true:=decide_eq_true (by omega)
    have e3:=bin_add Try.prog 3 (k:Int) 1 ⟨by omega,by omega⟩
    have hcast:((k:Int)+1)=((k+1:Nat):Int):=by omega
    obtain⟨a,cap,hv,hc⟩:=hT.old ho hb
    obtain⟨i,o,u,ha,hi,hl1,hl2,hu⟩:=hc k d L hx
    have e1:indexAddrA Try.prog 33 v4 (iv (k:Int))=some (.ptr (some (i,o+k * 2))):=by rw[hv,ha];exact idx_slice Try.underlying33 sz27 hlt
    have e2:loadV Try.prog s 27 (.ptr (some (i,o+k * 2)))=some (.agg [.bool d,u]):=by simp[loadV,ag27,sz27,load_two hl1 hl2]
    have hal:allocA Try.prog 27=some (mkRow 27 0 [.bool false,.slice none 0 (some 0)],.ptr):=alloc27
    have hmv:∀i,Made.val i .ptr=.ptr (some (i,0)):=fun _=>rfl
    have hms:∀ (m:Nat) (i:Nat),Made.val i (.slice m)=.slice (some (i,0)) m (some m):=fun _ _=>rfl
    generalize hs1:newObj s (mkRow 27 0 [.bool false,.slice none 0 (some 0)])=s1
    have n1:s1.next=s.next+1:=by rw[← hs1];rfl
    have o1:Old s.next s s1:=by rw[← hs1];exact Old.new s _
    have bx1:Box2 s1 s.next (.bool false) (.slice none 0 (some 0)):=by
      obtain⟨r,h1,h2,h3,h4,h5,h6⟩:=holds_mkRow 27 0 [.bool false,.slice none 0 (some 0)]
      exact⟨r,by rw[← hs1,heap_new,if_pos rfl,h1],h2,h5,h6⟩
    obtain⟨s2,g1,g2,g3,g4⟩:=bx1.store (d0:=.bool d) (d1:=u) rfl hu.isCell.1
    have o2:Old s.next s s2:=⟨by omega,fun x hx=>by rw[g4 x (by omega),o1.2 x hx]⟩
    have hns:=ho.1
    have hu2:SliceAt b s2 u (ivs L):=hu.old (o2.mono (by omega)) (Nat.le_refl _)
    have ld0:loadV Try.prog s2 4 (.ptr (some (s.next,0)))=some (.bool d):=load_one ag4 g2.load0
    have ld1:loadV Try.prog s2 23 (.ptr (some (s.next,0+1)))=some u:=load_one ag23 g2.load1
    refine WC.loop' ?_
    generalize hW:WC E none (CCode.loop c43l8) Q=W at ih ⊢
    simp only[c43l8,c43o4,hkk,c43o5,e1,e2,hal,hmv,hs1,on2,g1,withV,c43o6,fa27_0,ld0,fa27_1,ld1,Qa,Qb,Qc,Qd,Qe,Qf,Qg,Qh,Qi,Qj,Qk,Ql,Qm,Qn,true_and,and_true,Qo,Qp,Qq,Qr,Qs,Qt,Qu,Qv,Qw,Qx,Qy,Qz,Ra,Rb,Rc,Rd,Re,Rf,Rg,Rh,Ri,Rj,Rk,Rl,Rm,Ya,Yb,Yc,Rn,Ro,Rp,Yd,Ye,Rq,Rs,Rt,Ru,Rv,Rw,Rx]
    refine(clone_ok hE (by omega) hu2 (hL _ (List.mem_of_getElem? hx))).mono ?_
    rintro r s3 ⟨hr,ho3⟩
    have hn3:=ho3.1
    have ld0':loadV Try.prog s3 4 (.ptr (some (s.next,0)))=some (.bool d):=load_one ag4 (g2.keep (ho3.2 s.next (by omega))).load0
    have hsame:eqA (.bool d) (.bool d)=true:=by cases d<;>rfl
    have hrc:=hr.slice
    have o23:Old s.next s s3:=o2.trans (ho3.mono (by omega))
    have hm3:MadeS s0.next s3 v us (T.take k) O:=hm.old o23
    have hOlt:∀j∈O,j<s2.next:=fun j hj=>by have:=hm.dest.lt j hj;omega
    have hcell:Cell27 s0.next s3 O r:=hr.cell hOlt (by omega)
    have hb27:buildA Try.prog 27 (zipIdx [0,1] [.bool d,r])=some (.agg [.bool d,r]):=by
      have hd2:(AV.bool d).cells=[.bool d]:=rfl
      simp[buildA,zr27,Try.underlying27,fieldSizes,sz4,sz23,zipIdx,fillA,cells_agg,guardB,hd2,hrc.isCell.2]
      rfl
    obtain⟨v',s4,O',p1,p2,p3⟩:=push_lineS hm3 (by rw[List.length_take];omega) (d:=d) (hrc) hcell (by omega)
    simp only[again_r1,ld0',sameA_some,hsame,hb27,bld_line,hms,p1,c43o7,e3,hcast,Qa,Qb,Qc,Qd,Qe,Qf,Qg,Qh,Qi,Qj,Qk,Ql,Qm,Qn,true_and,and_true,Qo,Qp,Qq,Qr,Qs,Qt,Qu,Qv,Qw,Qx,Qy,Qz,Ra,Rb,Rc,Rd,Re,Rf,Rg,Rh,Ri,Rj,Rk,Rl,Rm,Ya,Yb,Yc,Rn,Ro,Rp,Yd,Ye,Rq,Rs,Rt,Ru,Rv,Rw,Rx]
    refine ih (k+1) s4 v' (us++[.bool d,r]) O' _ _ hd' hlt ?_ ((ho.trans (o23.mono hns)).trans p3)
    have et:T.take (k+1)=T.take k++[(d,L)]:=by
      rw[List.take_succ_eq_append_getElem hlt]
      rw[List.getElem?_eq_getElem hlt]at hx
      injection hx with hx
      rw[hx]
    rw[et]
    exact p2
theorem TrAt.at_{ow:Ow}{s:ASt}{p:Nat}{v:AV}{T:Trace20}(h:TrAt ow s p v T):TraceAt s.next s v T:=by
  obtain⟨us,O,h1,h2,h3,h4,h5⟩:=h
  obtain⟨a,cap,hv,hc⟩:=h1.cells
  refine⟨a,cap,hv,fun k d L hk=>?_⟩
  obtain⟨h0,u,q1,q2⟩:=h4.2 k d L hk
  obtain⟨i,o,e,hi,hl⟩:=hc _ _ h0
  obtain⟨i',o',e',hi',hl'⟩:=hc _ _ q1
  rw[e]at e'
  injection e' with e'
  injection e' with e1 e2
  subst e1 e2
  exact⟨i,o,u,e,hi,hl,by rw[Nat.add_assoc];exact hl',q2⟩
theorem trace43_ok{E:Env}(hE:Good E){ow:Ow}{s:ASt}{p:Nat}{x:Sf}{v:Sv}(h:SAt ow s p x v)(hlen:v.trace.length≤1000000)(hL:∀x∈v.trace,x.2.length≤1000000):
    WF E 43 [ptrA p] (fun r s'=>∃us O,MadeS s.next s' r us v.trace O∧Old s.next s s') s:=by
  have q:=eq_ptr44 p
  simp only[ptrA]at q
  have hT:=h.trace.at_
  have hln:∀s',lenA Try.prog s' 33 x.trc=some (iv (v.trace.length:Int)):=fun s'=>by
    obtain⟨a,cap,e,_⟩:=hT
    rw[e]
    exact len_slice Try.underlying33
  refine hE.go comp43 (by decide) rfl ?_
  have:=trace_loop hE hT (Nat.le_refl _) hlen hL (ptrA p) (.bool false) (Q:=InBlock 0 (seqK (Qa E none (.seq (.ops c43o9) .ret) (Ends Try.prog c43.results (fun r s'=>∃us O,MadeS s.next s' r us v.trace O∧Old s.next s s'))) (Ends Try.prog c43.results (fun r s'=>∃us O,MadeS s.next s' r us v.trace O∧Old s.next s s')))) ?_ v.trace 0 s (.slice none 0 (some 0)) [] [] undefA undefA rfl (Nat.zero_le _)
    ⟨by simpa using Dest.nil s 2,by simpa using LineCells.nil _ _,(fun u hu=>by cases hu),(fun j hj=>by cases hj)⟩ (Old.refl _ _)
  · simp only [ptrA, c43, Qa, Qb, Qc, Qd, Qe, Qf, Qg, Qh, Qi, Qj, Qk, Ql, Qm, Qn, true_and, and_true, Qo, Qp, Qq, Qr, Qs, Qt, Qu, Qv, Qw, Qx, Qy, Qz, Ra, Rb, Rc, Rd, Re, Rf, Rg, Rh, Ri, Rj, Rk, Rl, Rm, Ya, Yb, Yc, Rn, Ro, Rp, Yd, Ye, Rq, Rs, Rt, Ru, Rv, Rw, Rx] at this
    simp only[c43,c43o0,c43o1,ptrA,q,c43o3,nilCheck_ptr,fa91_12,h.ld_trc,hln,Qa,Qb,Qc,Qd,Qe,Qf,Qg,Qh,Qi,Qj,Qk,Ql,Qm,Qn,true_and,and_true,Qo,Qp,Qq,Qr,Qs,Qt,Qu,Qv,Qw,Qx,Qy,Qz,Ra,Rb,Rc,Rd,Re,Rf,Rg,Rh,Ri,Rj,Rk,Rl,Rm,Ya,Yb,Yc,Rn,Ro,Rp,Yd,Ye,Rq,Rs,Rt,Ru,Rv,Rw,Rx]
    exact this
  · intro s' v' us' O' y2 y6 y7 h1 h2
    simp only[if_true,c43,c43o9,Qa,Qb,Qc,Qd,Qe,Qf,Qg,Qh,Qi,Qj,Qk,Ql,Qm,Qn,true_and,and_true,Qo,Qp,Qq,Qr,Qs,Qt,Qu,Qv,Qw,Qx,Qy,Qz,Ra,Rb,Rc,Rd,Re,Rf,Rg,Rh,Ri,Rj,Rk,Rl,Rm,Ya,Yb,Yc,Rn,Ro,Rp,Yd,Ye,Rq,Rs,Rt,Ru,Rv,Rw,Rx]
    exact⟨us',O',h1,h2⟩
theorem sols_trace{E:Env}(hE:Good E){B:Nat→Prop}{s:ASt}{V:Nat→Option Sv}(h:Sols B s V){p:Nat}{v:Sv}(hp:V p=some v)(hlen:v.trace.length≤1000000)(hL:∀x∈v.trace,x.2.length≤1000000):
    WF E 43 [ptrA p] (fun r s'=>∃us O,MadeS s.next s' r us v.trace O∧Old s.next s s') s:=by
  obtain⟨ow,g1,g2⟩:=h
  obtain⟨x,hx⟩:=g1 p v hp
  exact trace43_ok hE hx hlen hL
structure Stays(n:Nat)(F:List (List Int))(J:Sv→Prop):Prop where
  same:∀ {v v':Sv},J v→ClSame v.cl v'.cl→v'.trace=v.trace→J v'
  fail:∀ {v:Sv} {h d:Nat} {l:Int},J v→CT n v→CI n F h v→v.limits=[]→Fails v d l→lv v l=(v.limits.length:Int)→J (failV v)
  lrn:∀ {v:Sv} {h d:Nat} {l:Int} {r:Lst} {cn:Nat},J v→CT n v→CI n F h v→v.limits≠[]→Fails v d l→lv v l=(v.limits.length:Int)→LearnR v d lst0 v.trail.length 0 r→Learned v r→v.cl cn=none→J (addCl { v with trace:=v.trace++[(false,learnL v r)] } cn (learnL v r,true,false))
theorem keepV_cl(v:Sv)(c:Nat)(L:List Int):(keepV v c L).cl=clPut v.cl c (L,true,false)∧(keepV v c L).trace=v.trace++[(false,L)]:=by
  unfold keepV
  dsimp only
  split<;>exact⟨rfl,rfl⟩
theorem backV_cl(v:Sv)(k:Nat):(backV v k).cl=v.cl∧(backV v k).trace=v.trace:=by
  obtain⟨ph,va,wh,tr,li,hd,e,_⟩:=backV_eq v k
  rw[e]
  exact⟨rfl,rfl⟩
theorem same_of{a b:Nat→Option Clause}(h:a=b):ClSame b a:=by rw[h];exact ClSame.refl _
theorem LearnR.det{v:Sv}{c at_:Nat}{a r r':Lst}{l:Int}(h:LearnR v c a at_ l r)(k:LearnR v c a at_ l r'):r=r':=by
  induction h with
  | last hc ha hs ho =>
    cases k with
    | last hc' ha' hs' ho' =>
      rw[hc]at hc'
      injection hc' with e
      injection e with e1 e2
      subst e1
      rw[ha]at ha'
      subst ha'
      rw[hs]at hs'
      injection hs' with e3
      subst e3
      rfl
    | more hc' ha' hs' ho' hw' hr' =>
      rw[hc]at hc'
      injection hc' with e
      injection e with e1 e2
      subst e1
      rw[ha]at ha'
      subst ha'
      omega
  | more hc ha hs ho hw hr ih =>
    cases k with
    | last hc' ha' hs' ho' =>
      rw[hc]at hc'
      injection hc' with e
      injection e with e1 e2
      subst e1
      rw[ha]at ha'
      subst ha'
      omega
    | more hc' ha' hs' ho' hw' hr' =>
      rw[hc]at hc'
      injection hc' with e
      injection e with e1 e2
      subst e1
      rw[ha]at ha'
      subst ha'
      rw[hs]at hs'
      injection hs' with e3
      subst e3
      rw[hw]at hw'
      injection hw' with e4
      subst e4
      exact ih hr'
theorem solve_lawJ {n A : Nat} {F : List (List Int)} {c0 most : Nat} {J : Sv → Prop} (S : Stays n F J) (hF : ∀ f ∈ F, ∀ y ∈ f, VL n y) (hA : A ≤ 1000000) (hb : 3 ^ n ≤ 1900 ∨ c0 + most ≤ 1900) :
    SolveLaw n most (fun k v=>LoopI n A F c0 most k v∧J v) (fun r v=>LoopR n A F c0 most r v∧J v):=by
  have h:=solve_law (n:=n) (A:=A) (F:=F) (c0:=c0) (most:=most) hF hA hb
  have pro:∀ {k v c v1},LoopI n A F c0 most k v→v.broken=false→PropR v c v1→Prog v v1∧CT n v1∧∀d,c=some d→∃h,CI n F h v1∧∃l,Fails v1 d l∧lv v1 l=(v1.limits.length:Int):=by
    intro k v c v1 hI hbr hp
    obtain⟨hk,⟨C,hL,he⟩ | hD⟩:=hI
    · have hs:C.length≤1900:=by
        rcases hb with q | q
        · have:=hL.cod.len;omega
        · omega
      obtain⟨p1,p2,p3,p4,p5,p6⟩:=live_prop hL (by omega) hp
      exact⟨p1,p2,fun d hd=>let ⟨h,k1,_,l,k2,k3⟩:=p6 d hd;⟨h,k1,l,k2,k3⟩⟩
    · rw[hD.brk]at hbr;cases hbr
  have J1:∀ {k v c v1},LoopI n A F c0 most k v→J v→v.broken=false→PropR v c v1→J v1:=fun hI hJ hbr hp=>by
    obtain⟨p1,_,_⟩:=pro hI hbr hp
    exact S.same hJ p1.cl p1.trace
  refine⟨fun hI=>h.ok hI.1,fun hI hbr=>⟨h.brk hI.1 hbr,hI.2⟩,fun hI hbr hp=>h.mid hI.1 hbr hp,fun hI hbr hp hl=>⟨h.fail hI.1 hbr hp hl,?_⟩,fun hI hbr hp hl hk=>⟨h.unk hI.1 hbr hp hl hk,?_⟩,fun hI hbr hp hl hk=>?_,fun hI hbr hp hh hhl=>⟨⟨(h.cool hI.1 hbr hp hh hhl).1,?_⟩,(h.cool hI.1 hbr hp hh hhl).2⟩,fun hI hbr hp hall=>⟨h.maybe hI.1 hbr hp hall,?_⟩,fun hI hbr hp h1 h2 h3=>⟨h.dec hI.1 hbr hp h1 h2 h3,?_⟩⟩
  · obtain ⟨_, p2, p3⟩ := pro hI.1 hbr hp
    obtain⟨hh,k1,l,k2,k3⟩:=p3 _ rfl
    exact S.fail (J1 hI.1 hI.2 hbr hp) p2 k1 hl k2 k3
  · exact S.same (J1 hI.1 hI.2 hbr hp) (same_of (backV_cl _ _).1) (backV_cl _ _).2
  · obtain ⟨_, p2, p3⟩ := pro hI.1 hbr hp
    obtain⟨hh,k1,l,k2,k3⟩:=p3 _ rfl
    obtain⟨r',q1,q2⟩:=learn_first p2 hl k2 k3
    obtain⟨r,r1,r2,r3,r4,r5⟩:=h.lrn hI.1 hbr hp hl hk
    refine⟨r,r1,r2,r3,r4,fun ht cn htl hcn=>⟨r5 ht cn htl hcn,?_⟩⟩
    refine S.same (S.lrn (cn:=cn) (J1 hI.1 hI.2 hbr hp) p2 k1 hl k2 k3 r1 (by rw[r1.det q1];exact q2) hcn) (same_of ?_) ?_
    · rw[(keepV_cl _ _ _).1,(backV_cl _ _).1];rfl
    · rw[(keepV_cl _ _ _).2,(backV_cl _ _).2];rfl
  · exact S.same (J1 hI.1 hI.2 hbr hp) (same_of (backV_cl _ _).1) (backV_cl _ _).2
  · exact S.same (J1 hI.1 hI.2 hbr hp) (same_of (by unfold modelV;rw[(backV_cl _ _).1])) (by unfold modelV;rw[(backV_cl _ _).2])
  · exact S.same (J1 hI.1 hI.2 hbr hp) (ClSame.refl _) rfl
theorem solve_useJ{E:Env}(hE:Good E){ow:Ow}{s:ASt}{p:Nat}{x:Sf}{v:Sv}(h:SAt ow s p x v){n A:Nat}{F:List (List Int)}{M most:Nat}{J:Sv→Prop}(S:Stays n F J)(hJ:J v)(hI:SI n A F M v)(hbd:Bd n A (M+most))(hmost:most≤100000)(hF:∀f∈F,∀y∈f,VL n y):
    WF E 34 [ptrA p,iv (most:Int)] (fun r s'=>∃ (c:Int) (v':Sv) (ow':Ow) (x':Sf),r=iv c∧SI n A F (M+most) v'∧J v'∧(c=0∧(∀σ,¬ Models σ F)∧v'.broken=true∨c=1∧Models (tells v'.model) F∧v'.broken=false∨c=2∧(n≤6→most<729))∧SAt ow' s' p x' v'∧Step (mine p) ow s ow' s') s:=by
  obtain⟨h1,h2,h3⟩:=hbd
  have start:∃c0,c0≤M∧LoopI n A F c0 most 0 v∧(3 ^ n≤1900∨c0+most≤1900):=by
    rcases hI with⟨C,g1,g2,g3⟩ | g
    · exact⟨C.length,g3,⟨Nat.zero_le _,.inl ⟨C,g1,rfl⟩⟩,h3.imp id fun q=>by omega⟩
    · exact⟨M,Nat.le_refl _,⟨Nat.zero_le _,.inr (g.mono (by omega) fun σ hσ=>hσ)⟩,h3⟩
  obtain⟨c0,s1,s2,s3⟩:=start
  obtain⟨i1,i2,_,_⟩:=hI.inv ⟨h1,h2,h3.imp id fun q=>by omega⟩
  have hbk:=back_lim i2
  refine(solve_ok hE (solve_lawJ (A:=A) (c0:=c0) (most:=most) S hF (by omega) s3) (by omega) (by omega) h i1.fit (by rw[hbk];exact⟨s2,hJ⟩)).mono ?_
  rintro _ s' ⟨c,v',ow',x',rfl,⟨g1,gJ⟩,g2,g3⟩
  rcases g1 with⟨rfl,k⟩ | ⟨rfl,C,k1,k2,k3,k4,k5⟩ | ⟨rfl,C,k1,k2,k3,k4⟩
  · exact⟨0,v',ow',x',rfl,.inr (k.mono (by omega) fun σ hσ=>hσ),gJ,.inl ⟨rfl,k.no,k.brk⟩,g2,g3⟩
  · exact⟨1,v',ow',x',rfl,.inl ⟨C,k1,k2,by omega⟩,gJ,.inr (.inl ⟨rfl,k5,k1.brk⟩),g2,g3⟩
  · refine⟨2,v',ow',x',rfl,.inl ⟨C,k1,k2,by omega⟩,gJ,.inr (.inr ⟨rfl,fun hn=>?_⟩),g2,g3⟩
    have:3 ^ n≤3 ^ 6:=Nat.pow_le_pow_right (by decide) hn
    have e:(3:Nat) ^ 6=729:=rfl
    omega
theorem sols_solveJ{E:Env}(hE:Good E){B:Nat→Prop}{s:ASt}{V:Nat→Option Sv}(h:Sols B s V){p:Nat}{v:Sv}(hp:V p=some v){n A:Nat}{F:List (List Int)}{M most:Nat}{J:Sv→Prop}(S:Stays n F J)(hJ:J v)(hI:SI n A F M v)(hbd:Bd n A (M+most))(hmost:most≤100000)(hF:∀f∈F,∀y∈f,VL n y):
    WF E 34 [ptrA p,iv (most:Int)] (fun r s'=>∃ (c:Int) (v':Sv),r=iv c∧SI n A F (M+most) v'∧J v'∧(c=0∧(∀σ,¬ Models σ F)∧v'.broken=true∨c=1∧Models (tells v'.model) F∧v'.broken=false∨c=2∧(n≤6→most<729))∧Sols B s' (setV V p v')∧Keep B s s') s:=by
  obtain⟨ow,h1,h2⟩:=h
  obtain⟨x,hx⟩:=h1 p v hp
  refine(solve_useJ hE hx S hJ hI hbd hmost hF).mono ?_
  rintro _ s' ⟨c,v',ow',x',rfl,g1,g2,g3,g4,g5⟩
  obtain⟨k1,k2⟩:=Sols.used h1 h2 hp g4 g5
  exact⟨c,v',rfl,g1,g2,g3,k1,k2⟩
theorem sols_addJ{E:Env}(hE:Good E){B:Nat→Prop}{s:ASt}{V:Nat→Option Sv}(h:Sols B s V){p:Nat}{v:Sv}(hp:V p=some v){n A:Nat}{F:List (List Int)}{M:Nat}{J:Sv→Prop}(hI:SI n A F M v)(hbd:Bd n A M){f:List Int}(hf:∀q∈f,VL n q)(hlen:f.length≤12)(hJ:∀v',AddR v f v'→J v'){b:Nat}{u:AV}(hb:b≤s.next)(hu:SliceAt b s u (ivs f))(hus:InB B u):
    WF E 36 [ptrA p,u] (fun r s'=>r=iv 0∧∃v',SI n (A+1) (F++[f]) M v'∧J v'∧Sols B s' (setV V p v')∧Keep B s s') s:=by
  obtain⟨ow,h1,h2⟩:=h
  obtain⟨x,hx⟩:=h1 p v hp
  obtain⟨i1,i2,i3,i4⟩:=hI.inv hbd
  have hbk:=back_lim i2
  have hn:=hbd.1
  refine(add_ok hE hx i1.fit (by rw[hbk];exact i1.fit.val) i3 (by omega) hlen hf hb hu fun j hj=>?_).mono ?_
  · obtain⟨r1,r2⟩:=h2 j (hus j hj)
    exact⟨fun q=>(by rw[q,hp]at r2;cases r2),r1⟩
  rintro _ s' ⟨rfl,v',ow',x',g1,g2,g3⟩
  rw[hbk]at g1
  obtain⟨k1,k2⟩:=hI.add hbd hf hlen g1
  obtain⟨k3,k4⟩:=Sols.used h1 h2 hp g2 g3
  exact⟨rfl,v',k1,hJ v' g1,k3,k4⟩
def TrOk(n:Nat)(T:Trace20):Prop:=∀x∈T,x.1=false∧(∀y∈x.2,VL n y)∧x.2.length≤n
theorem TrOk.snoc{n:Nat}{T:Trace20}(h:TrOk n T){L:List Int}(h1:∀y∈L,VL n y)(h2:L.length≤n):TrOk n (T++[(false,L)]):=fun x hx=>by
  rcases List.mem_append.1 hx with q | q
  · exact h x q
  · rw[List.mem_singleton.1 q];exact⟨rfl,h1,h2⟩
theorem TrOk.fail{n:Nat}{v:Sv}(h:TrOk n v.trace):TrOk n (failV v).trace:=by
  unfold failV
  split
  · exact h
  · exact h.snoc (fun y hy=>by cases hy) (Nat.zero_le _)
theorem cls_len{n:Nat}{L:List Int}(h:ClsOk n L)(hn:(L.map Int.natAbs).Nodup):L.length≤n:=by
  have:=nodup_len (l:=L.map Int.natAbs) (n:=n) hn fun x hx=>by
    obtain⟨y,hy,rfl⟩:=List.mem_map.1 hx
    obtain⟨h1,h2⟩:=h.1 y hy
    omega
  rw[List.length_map]at this
  exact this
theorem stays_tr(n:Nat)(F:List (List Int)):Stays n F fun v=>TrOk n v.trace:=
  ⟨fun h _ e=>by rw[e];exact h,fun h _ _ _ _ _=>h.fail,fun h hc _ _ _ _ _ hl _=>h.snoc (hl.list hc).ok.1 (cls_len (hl.list hc).ok (hl.list hc).nd)⟩
theorem putC_tr(v:Sv)(c:Nat)(O:List Int):(putC v c O).trace=v.trace:=by
  obtain⟨ws,e,_⟩:=putC_eq v c O
  rw[e]
theorem AddR.tr {n : Nat} {v v' : Sv} {L : List Int} (h : AddR v L v') (hT : TrOk n v.trace) : TrOk n v'.trace := by
  cases h with
  | none _=>exact hT
  | nil _ _ _=>exact hT.fail
  | put _ _ _ _ =>
    unfold addC
    split
    · exact TrOk.fail (by rw[putC_tr];exact hT)
    · split
      · show TrOk n (putC _ _ _).trace
        rw[putC_tr];exact hT
      · rw[putC_tr];exact hT
theorem new_useJ{E:Env}(hE:Good E)(ow:Ow){s:ASt}{n:Nat}(hn:n≤1000):
    WF E 40 [iv (n:Int)] (fun r s'=>∃v ow' x',r=ptrA s.next∧SAt ow' s' s.next x' v∧SI n 0 [] 0 v∧(v.trace=[]∧v.cl=(fun _=>none)∧v.broken=false)∧Step (mine s.next) ow s ow' s') s:=by
  refine(new_ok hE ow (n:=n) (by omega)).mono ?_
  rintro _ s' ⟨ow',x',rfl,g1,g2⟩
  obtain⟨h1,h2⟩:=(fresh_new n).live (by omega)
  exact⟨_,ow',x',rfl,g1,.inl ⟨[],h1,h2,Nat.le_refl _⟩,⟨(fresh_new n).rest.2.2.2.2.2.2.1,(fresh_new n).rest.2.2.2.2.2.2.2.2.2,(fresh_new n).rest.2.2.2.2.1⟩,g2⟩
theorem sols_newJ{E:Env}(hE:Good E){B:Nat→Prop}{s:ASt}{V:Nat→Option Sv}(h:Sols B s V){n:Nat}(hn:n≤1000):
    WF E 40 [iv (n:Int)] (fun r s'=>∃v,r=ptrA s.next∧V s.next=none∧Sols B s' (setV V s.next v)∧Keep B s s'∧SI n 0 [] 0 v∧v.trace=[]∧v.cl=(fun _=>none)∧v.broken=false) s:=by
  obtain⟨ow,h1,h2⟩:=h
  have hV:∀q,s.next≤q→V q=none:=fun q hq=>by
    cases hv:V q with
    | none=>rfl
    | some v =>
      obtain⟨x,hx⟩:=h1 _ v hv
      have:=hx.lt
      omega
  have st1:Step (fun t=>V t.1=none) ow s (fun j=>match V (ow j).1 with | none=>(s.next+1,0,0) | some _=>ow j) s:=⟨Nat.le_refl _,fun x hx hm=>by
    cases hv:V (ow x).1 with
    | none=>exact absurd hv hm
    | some v=>simp only[hv],fun _ _ _=>rfl⟩
  have h1':∀p v,V p=some v→∃x,SAt (fun j=>match V (ow j).1 with | none=>(s.next+1,0,0) | some _=>ow j) s p x v:=fun p v hp=>by
    obtain⟨x,hx⟩:=h1 p v hp
    exact⟨x,hx.keep st1 fun t ht e=>by rw[e,hp]at ht;cases ht⟩
  have h2':∀j,B j→j<s.next∧((fun j=>match V (ow j).1 with | none=>(s.next+1,0,0) | some _=>ow j:Ow) j)=(s.next+1,0,0):=fun j hj=>by
    obtain⟨r1,r2⟩:=h2 j hj
    exact⟨r1,by simp only[r2]⟩
  generalize (fun j=>match V (ow j).1 with | none=>(s.next+1,0,0) | some _=>ow j:Ow)=ow1 at *
  refine(new_useJ hE ow1 hn).mono ?_
  rintro _ s' ⟨v,ow',x',rfl,g1,g2,g3,g4⟩
  have hB:∀j,B j→¬ mine s.next (ow1 j):=fun j hj q=>by
    have q:(ow1 j).1=s.next:=q
    rw[(h2' j hj).2]at q
    exact absurd q (by show s.next+1≠s.next;omega)
  have hnx:=g4.next
  refine⟨v,rfl,hV _ (Nat.le_refl _),⟨ow',fun q w hq=>?_,fun j hj=>?_⟩,⟨hnx,fun j hj=>g4.heap j (h2' j hj).1 (hB j hj)⟩,g2,g3⟩
  · by_cases e : q = s.next
    · rw[e,setV_same]at hq
      injection hq with hq
      rw[← hq,e]
      exact⟨x',g1⟩
    · rw[setV_ne e]at hq
      obtain⟨x,hx⟩:=h1' q w hq
      exact⟨x,hx.keep g4 fun t ht e'=>by rw[show t.1=s.next from ht]at e';exact e e'.symm⟩
  · obtain⟨r1,r2⟩:=h2' j hj
    refine⟨by omega,?_⟩
    rw[g4.tags j r1 (hB j hj),r2,setV_ne (by show s.next+1≠s.next;omega)]
    exact hV _ (by omega)
theorem of_loopJ{E:Env}(hE:Good E){B:Nat→Prop}{s0:ASt}{V:Nat→Option Sv}{n p:Nat}(hn:n≤1000){cs:List (List Int)}(hcs:∀L∈cs,(∀x∈L,VL n x)∧L.length≤12)(hlen:cs.length≤1000){J:List (List Int)→Sv→Prop}(hJ0:∀v,v.trace=[]→v.cl=(fun _=>none)→v.broken=false→J [] v)(hJa:∀ (A:Nat)(F:List (List Int))(L:List Int)(v v':Sv),L∈cs→SI n A F 0 v→J F v→AddR v L v'→J (F++[L]) v'){u:AV}(hr:RowsIn B s0 u cs)(v0 v2 x5:AV){Q:ARes→Prop}
    (hq:∀s' v y4 y6 y7,Sols B s' (setV V p v)→Keep B s0 s'→SI n cs.length cs 0 v→J cs v→Q ⟨.exit 0,[v0,u,v2,ptrA p,y4,x5,y6,y7],[],s'⟩):
    ∀ (l:List (List Int)) (k:Nat) (s:ASt) (v:Sv) (x6 x7:AV),cs.drop k=l→k≤cs.length→Sols B s (setV V p v)→Keep B s0 s→SI n k (cs.take k) 0 v→J (cs.take k) v →
      WC E none (.loop c32l9) Q [v0,u,v2,ptrA p,iv (k:Int),x5,x6,x7] [] s:=by
  intro l
  induction l with
  | nil =>
    intro k s v x6 x7 hd hk hS hK hI hm
    have:=drop_end hd hk
    subst this
    rw[List.take_length]at hI hm
    have hr':=hr.keep hK
    refine WC.loop' ?_
    simp only[c32l9,c32o5,hr'.len,Int.lt_irrefl,decide_false,Qa,Qb,Qc,Qd,Qe,Qf,Qg,Qh,Qi,Qj,Qk,Ql,Qm,Qn,true_and,and_true,Qo,Qp,Qq,Qr,Qs,Qt,Qu,Qv,Qw,Qx,Qy,Qz,Ra,Rb,Rc,Rd,Re,Rf,Rg,Rh,Ri,Rj,Rk,Rl,Rm,Ya,Yb,Yc,Rn,Ro,Rp,Yd,Ye,Rq,Rs,Rt,Ru,Rv,Rw,Rx]
    exact hq _ v _ _ _ hS hK hI hm
  | cons L l ih =>
    intro k s v x6 x7 hd hk hS hK hI hm
    obtain⟨hlt,hx,hd'⟩:=drop_facts hd
    have hr':=hr.keep hK
    obtain⟨a,w,e1,e2,hu,hB⟩:=hr'.row hx
    have hkk:decide ((k:Int)<(cs.length:Int))=true:=decide_eq_true (by omega)
    have e3:=bin_add Try.prog 3 (k:Int) 1 ⟨by omega,by omega⟩
    have hcast:((k:Int)+1)=((k+1:Nat):Int):=by omega
    obtain⟨h6,h7⟩:=hcs L (List.mem_of_getElem? hx)
    have hadd:=sols_addJ hE hS (setV_same V p v) (J:=J (cs.take k++[L])) hI (hbd:=⟨hn,by omega,.inr (by omega)⟩) h6 h7 (fun v' hr=>hJa _ _ L v v' (List.mem_of_getElem? hx) hI hm hr) (Nat.le_refl _) hu hB
    simp only[ptrA]at hadd
    refine WC.loop' ?_
    generalize hW:WC E none (CCode.loop c32l9) Q=W at ih ⊢
    simp only[c32l9,c32o5,c32o6,ptrA,hr'.len,hkk,e1,e2,Qa,Qb,Qc,Qd,Qe,Qf,Qg,Qh,Qi,Qj,Qk,Ql,Qm,Qn,true_and,and_true,Qo,Qp,Qq,Qr,Qs,Qt,Qu,Qv,Qw,Qx,Qy,Qz,Ra,Rb,Rc,Rd,Re,Rf,Rg,Rh,Ri,Rj,Rk,Rl,Rm,Ya,Yb,Yc,Rn,Ro,Rp,Yd,Ye,Rq,Rs,Rt,Ru,Rv,Rw,Rx]
    refine hadd.mono ?_
    rintro _ s' ⟨rfl,v',g1,g2,g3,g4⟩
    rw[setV_set]at g3
    have hd0:decide ((0:Int)≠0)=false:=by decide
    simp only[hd0,c32o8,e3,hcast,Qa,Qb,Qc,Qd,Qe,Qf,Qg,Qh,Qi,Qj,Qk,Ql,Qm,Qn,true_and,and_true,Qo,Qp,Qq,Qr,Qs,Qt,Qu,Qv,Qw,Qx,Qy,Qz,Ra,Rb,Rc,Rd,Re,Rf,Rg,Rh,Ri,Rj,Rk,Rl,Rm,Ya,Yb,Yc,Rn,Ro,Rp,Yd,Ye,Rq,Rs,Rt,Ru,Rv,Rw,Rx]
    refine ih (k+1) s' v' _ _ hd' hlt g3 (hK.trans g4) ?_ ?_
    all_goals rw[take_snoc hx]
    · exact g1
    · exact g2
theorem of32J_ok{E:Env}(hE:Good E){B:Nat→Prop}{s:ASt}{V:Nat→Option Sv}(h:Sols B s V){n:Nat}(hn:n≤1000){cs:List (List Int)}(hcs:∀L∈cs,(∀x∈L,VL n x)∧L.length≤12)(hlen:cs.length≤1000){J:List (List Int)→Sv→Prop}(hJ0:∀v,v.trace=[]→v.cl=(fun _=>none)→v.broken=false→J [] v)(hJa:∀ (A:Nat)(F:List (List Int))(L:List Int)(v v':Sv),L∈cs→SI n A F 0 v→J F v→AddR v L v'→J (F++[L]) v'){u:AV}(hr:RowsIn B s u cs):
    WF E 32 [iv (n:Int),u] (fun r s'=>∃p v,r=ptrA p∧V p=none∧Sols B s' (setV V p v)∧Keep B s s'∧SI n cs.length cs 0 v∧J cs v) s:=by
  refine hE.go comp32 (by decide) rfl ?_
  simp only[c32,c32o0,c32o1,Qa,Qb,Qc,Qd,Qe,Qf,Qg,Qh,Qi,Qj,Qk,Ql,Qm,Qn,true_and,and_true,Qo,Qp,Qq,Qr,Qs,Qt,Qu,Qv,Qw,Qx,Qy,Qz,Ra,Rb,Rc,Rd,Re,Rf,Rg,Rh,Ri,Rj,Rk,Rl,Rm,Ya,Yb,Yc,Rn,Ro,Rp,Yd,Ye,Rq,Rs,Rt,Ru,Rv,Rw,Rx]
  refine(sols_newJ hE h hn).mono ?_
  rintro _ s1 ⟨v,rfl,hV,g1,g2,g3,g4a,g4b,g4c⟩
  have g4:J (cs.take 0) v:=hJ0 v g4a g4b g4c
  obtain⟨i1,i2,_,_⟩:=g3.inv ⟨hn,by omega,.inr (by omega)⟩
  have hvars:=sols_vars hE g1 (setV_same V s.next v) (n:=n) (by omega) i1.fit.siz.value
  have he:=eq_ptr44 s.next
  have hne:decide ((n:Int)≠(n:Int))=false:=by simp
  simp only[ptrA]at he hvars
  simp only[c32o2,ptrA,he,Qa,Qb,Qc,Qd,Qe,Qf,Qg,Qh,Qi,Qj,Qk,Ql,Qm,Qn,true_and,and_true,Qo,Qp,Qq,Qr,Qs,Qt,Qu,Qv,Qw,Qx,Qy,Qz,Ra,Rb,Rc,Rd,Re,Rf,Rg,Rh,Ri,Rj,Rk,Rl,Rm,Ya,Yb,Yc,Rn,Ro,Rp,Yd,Ye,Rq,Rs,Rt,Ru,Rv,Rw,Rx]
  refine hvars.mono ?_
  rintro _ _ ⟨rfl,rfl⟩
  simp only[hne,c32o4,Qa,Qb,Qc,Qd,Qe,Qf,Qg,Qh,Qi,Qj,Qk,Ql,Qm,Qn,true_and,and_true,Qo,Qp,Qq,Qr,Qs,Qt,Qu,Qv,Qw,Qx,Qy,Qz,Ra,Rb,Rc,Rd,Re,Rf,Rg,Rh,Ri,Rj,Rk,Rl,Rm,Ya,Yb,Yc,Rn,Ro,Rp,Yd,Ye,Rq,Rs,Rt,Ru,Rv,Rw,Rx]
  have:=of_loopJ hE (V:=V) (p:=s.next) hn hcs hlen hJ0 hJa (hr.keep g2) (iv (n:Int)) (.ptr none) (.bool false) (Q:=InBlock 0 (seqK (Qa E none (.seq (.ops c32o10) .ret) (Ends Try.prog c32.results (fun r s'=>∃p v,r=ptrA p∧V p=none∧Sols B s' (setV V p v)∧Keep B s s'∧SI n cs.length cs 0 v∧J cs v))) (Ends Try.prog c32.results (fun r s'=>∃p v,r=ptrA p∧V p=none∧Sols B s' (setV V p v)∧Keep B s s'∧SI n cs.length cs 0 v∧J cs v))))
    ?_ cs 0 s1 v undefA undefA rfl (Nat.zero_le _) g1 (Keep.refl _ _) g3 g4
  · simp only[ptrA,c32,Qa,Qb,Qc,Qd,Qe,Qf,Qg,Qh,Qi,Qj,Qk,Ql,Qm,Qn,true_and,and_true,Qo,Qp,Qq,Qr,Qs,Qt,Qu,Qv,Qw,Qx,Qy,Qz,Ra,Rb,Rc,Rd,Re,Rf,Rg,Rh,Ri,Rj,Rk,Rl,Rm,Ya,Yb,Yc,Rn,Ro,Rp,Yd,Ye,Rq,Rs,Rt,Ru,Rv,Rw,Rx]at this ⊢
    exact this
  · intro s' v' y4 y6 y7 k1 k2 k3 k4
    simp only[if_true,c32,c32o10,Qa,Qb,Qc,Qd,Qe,Qf,Qg,Qh,Qi,Qj,Qk,Ql,Qm,Qn,true_and,and_true,Qo,Qp,Qq,Qr,Qs,Qt,Qu,Qv,Qw,Qx,Qy,Qz,Ra,Rb,Rc,Rd,Re,Rf,Rg,Rh,Ri,Rj,Rk,Rl,Rm,Ya,Yb,Yc,Rn,Ro,Rp,Yd,Ye,Rq,Rs,Rt,Ru,Rv,Rw,Rx]
    exact⟨s.next,v',rfl,hV,k1,g2.trans k2,k3,k4⟩
theorem row_elem{b:Nat}{s:ASt}{w:AV}{L:List Int}(h:SliceAt b s w (ivs L)){j:Nat}{x:Int}(hj:L[j]? = some x):∃a,indexAddrA Try.prog 23 w (iv (j:Int))=some a∧loadV Try.prog s 3 a=some (iv x):=by
  obtain⟨a,cap,rfl,hc⟩:=h
  obtain⟨i,o,rfl,hi,hl⟩:=hc j _ (get_ivs hj)
  have hlt:=lt_of_get hj
  exact⟨_,idx_slice Try.underlying23 sz3 (by rw[List.length_map];exact hlt),load_one ag3 (by rw[Nat.mul_one];exact hl)⟩
def WrCell(lo hi:Nat)(s:ASt)(u:AV)(n:Nat):Prop:=(n=0∧∃a c,u=.slice a 0 c)∨∃ (L:List Int)(i:Nat),L.length=n∧u=.slice (some (i,0)) n none∧RowAt s i (ivs L)∧lo≤i∧i<hi
structure TrWr(lo hi:Nat)(s:ASt)(v:AV)(us:List AV)(T:Trace20):Prop where
  low:lo≤hi
  top:hi≤s.next
  arr:∃a cap,v=.slice a T.length cap∧CellsAt hi s a us
  rows:∀ (k:Nat) (d:Bool) (L:List Int),T[k]? = some (d,L)→us[k * 2]? = some (.bool d)∧∃u:AV,us[k * 2+1]? = some u∧WrCell lo hi s u L.length
theorem MadeS.wr{lo:Nat}{s:ASt}{v:AV}{us:List AV}{T:Trace20}{O:List Nat}(h:MadeS lo s v us T O)(hlo:lo≤s.next):TrWr lo s.next s v us T:=by
  obtain⟨a,cap,e,hc⟩:=h.dest.cells
  refine⟨hlo,Nat.le_refl _,⟨a,cap,e,hc⟩,fun k d L hk=>?_⟩
  obtain⟨h1,u,h2,h3⟩:=h.rows.2 k d L hk
  refine⟨h1,u,h2,?_⟩
  obtain⟨a',c',e',hc'⟩:=h3
  have hlen:(ivs L).length=L.length:=List.length_map _
  rcases h.cell u (List.mem_of_getElem? h2)with⟨d',q⟩ | ⟨a2,c2,q⟩ | ⟨L2,i,q,q2,q3,q4,_⟩
  · rw[q]at e';cases e'
  · rw[q]at e'
    injection e' with e1 e2 e3
    exact .inl ⟨by rw[← hlen,← e2],a2,c2,q⟩
  · have hl:L2.length=L.length:=by
      rw[q]at e'
      injection e' with e1 e2 e3
      rw[e2,hlen]
    exact .inr ⟨L2,i,hl,by rw[q,hl],q2,q3,q4⟩
theorem TrWr.frame{lo hi:Nat}{s s':ASt}{v:AV}{us:List AV}{T:Trace20}(h:TrWr lo hi s v us T)(k:Old hi s s'):TrWr lo hi s' v us T:=by
  obtain⟨a,cap,e,hc⟩:=h.arr
  refine⟨h.low,Nat.le_trans h.top k.1,⟨a,cap,e,hc.old k (Nat.le_refl _)⟩,fun j d L hj=>?_⟩
  obtain⟨h1,u,h2,h3⟩:=h.rows j d L hj
  refine⟨h1,u,h2,?_⟩
  rcases h3 with q | ⟨L2,i,q1,q2,q3,q4,q5⟩
  · exact .inl q
  · exact .inr ⟨L2,i,q1,q2,q3.keep (k.2 i q5),q4,q5⟩
theorem TrWr.put {lo hi : Nat} {s : ASt} {v : AV} {us : List AV} {T : Trace20} (h : TrWr lo hi s v us T) {k : Nat} {d : Bool} {L : List Int} (hk : T[k]? = some (d, L)) {u : AV} (hu : us[k * 2 + 1]? = some u) {j : Nat} (hj : j < L.length) :
    ∃a s',indexAddrA Try.prog 23 u (iv (j:Int))=some a∧storeV Try.prog s 3 a (iv 99)=some s'∧TrWr lo hi s' v us T∧s'.next=s.next∧(∀x,x<lo→s'.heap.get x=s.heap.get x)∧∀x,hi≤x→s'.heap.get x=s.heap.get x:=by
  obtain⟨h1,u',h2,h3⟩:=h.rows k d L hk
  rw[hu]at h2
  injection h2 with h2
  subst h2
  rcases h3 with⟨q,_⟩ | ⟨L2,i,q1,q2,q3,q4,q5⟩
  · omega
  subst q2
  have hl2:(ivs L2).length=L.length:=by rw[List.length_map];exact q1
  obtain⟨s',g1,g2,g3,g4⟩:=q3.put (k:=j) (u:=iv 99) (by omega) sz3 rfl rfl
  have e1:indexAddrA Try.prog 23 (.slice (some (i,0)) L.length none) (iv (j:Int))=some (.ptr (some (i,0+j * 1))):=idx_slice Try.underlying23 sz3 hj
  obtain⟨a,cap,e,hc⟩:=h.arr
  have off:∀ (i2 o2:Nat),a=some (i2,o2)→i2≠i:=by
    intro i2 o2 ea e2
    subst e2 ea
    obtain⟨i3,o3,e3,_,hl⟩:=hc _ _ hu
    injection e3 with e3
    injection e3 with e3 e4
    subst e3 e4
    obtain⟨r,r1,r2,_⟩:=q3
    have hrow:rowAt s i2=some r:=by simp[rowAt,r1]
    unfold load1 at hl
    rw[hrow]at hl
    simp only[Option.bind_some]at hl
    obtain⟨g0,hl⟩:=guardB_some hl
    have hlt:o2+(k * 2+1)<r.n:=by simpa[Nat.blt_eq]using g0
    have hx:=r2.2 (o2+(k * 2+1)) _ (List.getElem?_eq_getElem (show o2+(k * 2+1)<(ivs L2).length by rw[← r2.1];exact hlt))
    rw[hl]at hx
    injection hx with hx
    simp at hx
  refine⟨_,s',e1,g1,⟨h.low,by rw[g3];exact h.top,⟨a,cap,e,fun m w hm=>?_⟩,fun m d' L' hm=>?_⟩,g3,fun x hx=>g4 x (by omega),fun x hx=>g4 x (by omega)⟩
  · obtain⟨i2,o2,c1,c2,c3⟩:=hc m w hm
    exact⟨i2,o2,c1,c2,by rw[load1_eq (g4 i2 (off i2 o2 c1))];exact c3⟩
  · obtain⟨m1,w,m2,m3⟩:=h.rows m d' L' hm
    refine⟨m1,w,m2,?_⟩
    rcases m3 with q | ⟨L3,i3,p1,p2,p3,p4,p5⟩
    · exact .inl q
    · by_cases ei : i3 = i
      · subst ei
        have hlL:L3.length=L2.length:=by
          obtain⟨r,r1,r2,_⟩:=q3
          obtain⟨r',r1',r2',_⟩:=p3
          rw[r1]at r1'
          injection r1' with r1'
          injection r1' with r1'
          subst r1'
          have a1:=r2.1
          have a2:=r2'.1
          rw[List.length_map]at a1 a2
          omega
        refine .inr ⟨L2.set j 99,i3,by rw[List.length_set];omega,p2,?_,p4,p5⟩
        have es:ivs (L2.set j 99)=(ivs L2).set j (iv 99):=by unfold ivs;rw[List.map_set]
        rw[es]
        exact g2
      · exact .inr ⟨L3,i3,p1,p2,p3.keep (g4 i3 ei),p4,p5⟩
theorem TrWr.len{lo hi:Nat}{s:ASt}{v:AV}{us:List AV}{T:Trace20}(h:TrWr lo hi s v us T){k:Nat}{d:Bool}{L:List Int}(hk:T[k]? = some (d,L)){u:AV}(hu:us[k * 2+1]? = some u):∀s',lenA Try.prog s' 23 u=some (iv (L.length:Int)):=fun s'=>by
  obtain⟨h1,u',h2,h3⟩:=h.rows k d L hk
  rw[hu]at h2
  injection h2 with h2
  subst h2
  rcases h3 with⟨q,a,c,rfl⟩ | ⟨L2,i,q1,rfl,_⟩
  · rw[len_slice Try.underlying23,q]
  · rw[len_slice Try.underlying23]
theorem wrong_in{E:Env}{lo hi:Nat}{v u:AV}{us:List AV}{T:Trace20}{k:Nat}{d:Bool}{L:List Int}(hk:T[k]? = some (d,L))(hu:us[k * 2+1]? = some u)(hL:L.length≤1000000){q:Nat}(hq:hi≤q)(v0 v1 v2 v3 v4 v5 v6 v7 v8 v9 v12 v13 v14 v15 v16 v17 v18 v19 v20 v22 v23 v24 v25 v26 v27:AV){Q:ARes→Prop}{s0:ASt}
    (hend:∀s' y11 y21,TrWr lo hi s' v us T→s'.next=s0.next→(∀x,x<lo→s'.heap.get x=s0.heap.get x)→(∀x,hi≤x→s'.heap.get x=s0.heap.get x)→Q ⟨.exit 2,[v0,v1,v2,v3,v4,v5,v6,v7,v8,v9,.ptr (some (q,0)),y11,v12,v13,v14,v15,v16,v17,v18,v19,v20,y21,v22,v23,v24,v25,v26,v27],[],s'⟩) (hb0:Box2 s0 q (.bool d) u):
    ∀ (m j:Nat) (s:ASt) (x21:AV),j+m=L.length→TrWr lo hi s v us T→s.next=s0.next→(∀x,x<lo→s.heap.get x=s0.heap.get x)→(∀x,hi≤x→s.heap.get x=s0.heap.get x) →
      WC E none (.loop c13l20) Q [v0,v1,v2,v3,v4,v5,v6,v7,v8,v9,.ptr (some (q,0)),iv (j:Int),v12,v13,v14,v15,v16,v17,v18,v19,v20,x21,v22,v23,v24,v25,v26,v27] [] s:=by
  intro m
  induction m with
  | zero =>
    intro j s x21 hm h e1 e2 e3
    have hj:j=L.length:=by omega
    subst hj
    have bx:=hb0.keep (e3 q hq)
    have ld1:loadV Try.prog s 23 (.ptr (some (q,0+1)))=some u:=load_one ag23 bx.load1
    have ln:=h.len hk hu
    refine WC.loop' ?_
    simp only[c13l20,c13o17,fa27_1,ld1,ln,Int.lt_irrefl,decide_false,Qa,Qb,Qc,Qd,Qe,Qf,Qg,Qh,Qi,Qj,Qk,Ql,Qm,Qn,true_and,and_true,Qo,Qp,Qq,Qr,Qs,Qt,Qu,Qv,Qw,Qx,Qy,Qz,Ra,Rb,Rc,Rd,Re,Rf,Rg,Rh,Ri,Rj,Rk,Rl,Rm,Ya,Yb,Yc,Rn,Ro,Rp,Yd,Ye,Rq,Rs,Rt,Ru,Rv,Rw,Rx]
    exact hend s _ _ h e1 e2 e3
  | succ m ih =>
    intro j s x21 hm h e1 e2 e3
    have bx:=hb0.keep (e3 q hq)
    have ld1:loadV Try.prog s 23 (.ptr (some (q,0+1)))=some u:=load_one ag23 bx.load1
    have ln:=h.len hk hu
    have hjj:decide ((j:Int)<(L.length:Int))=true:=decide_eq_true (by omega)
    have e4:=bin_add Try.prog 3 (j:Int) 1 ⟨by omega,by omega⟩
    have hcast:((j:Int)+1)=((j+1:Nat):Int):=by omega
    obtain⟨a,s',g1,g2,g3,g4,g5,g6⟩:=h.put hk hu (j:=j) (by omega)
    refine WC.loop' ?_
    generalize hW:WC E none (CCode.loop c13l20) Q=W at ih ⊢
    simp only[c13l20,c13o17,fa27_1,ld1,ln,hjj,c13o18,g1,on2,g2,withV,c13o19,e4,hcast,Qa,Qb,Qc,Qd,Qe,Qf,Qg,Qh,Qi,Qj,Qk,Ql,Qm,Qn,true_and,and_true,Qo,Qp,Qq,Qr,Qs,Qt,Qu,Qv,Qw,Qx,Qy,Qz,Ra,Rb,Rc,Rd,Re,Rf,Rg,Rh,Ri,Rj,Rk,Rl,Rm,Ya,Yb,Yc,Rn,Ro,Rp,Yd,Ye,Rq,Rs,Rt,Ru,Rv,Rw,Rx]
    exact ih (j+1) s' _ (by omega) g3 (g4.trans e1) (fun x hx=>(g5 x hx).trans (e2 x hx)) (fun x hx=>(g6 x hx).trans (e3 x hx))
theorem line_read{hi:Nat}{s:ASt}{v:AV}{us:List AV}{T:Trace20}(ha:∃a cap,v=.slice a T.length cap∧CellsAt hi s a us){k:Nat}{d:Bool}{u:AV}(hlt:k<T.length)(h1:us[k * 2]? = some (.bool d))(h2:us[k * 2+1]? = some u):
    ∃a,indexAddrA Try.prog 33 v (iv (k:Int))=some a∧loadV Try.prog s 27 a=some (.agg [.bool d,u]):=by
  obtain⟨a,cap,hv,hc⟩:=ha
  obtain⟨i,o,e,hi,hl⟩:=hc _ _ h1
  obtain⟨i',o',e',hi',hl'⟩:=hc _ _ h2
  rw[e]at e'
  injection e' with e'
  injection e' with q1 q2
  subst q1 q2
  refine⟨_,by rw[hv,e];exact idx_slice Try.underlying33 sz27 hlt,?_⟩
  have hl2:load1 s i (o+k * 2+1)=some u:=by rw[Nat.add_assoc];exact hl'
  simp[loadV,ag27,sz27,load_two hl hl2]
theorem line_box(s:ASt)(d:Bool){u:AV}(hu:u.isCell=true):∃s2,storeV Try.prog (newObj s (mkRow 27 0 [.bool false,.slice none 0 (some 0)])) 27 (.ptr (some (s.next,0))) (.agg [.bool d,u])=some s2∧Box2 s2 s.next (.bool d) u∧Old s.next s s2∧s2.next=s.next+1:=by
  generalize hs1:newObj s (mkRow 27 0 [.bool false,.slice none 0 (some 0)])=s1
  have n1:s1.next=s.next+1:=by rw[← hs1];rfl
  have o1:Old s.next s s1:=by rw[← hs1];exact Old.new s _
  have bx1:Box2 s1 s.next (.bool false) (.slice none 0 (some 0)):=by
    obtain⟨r,h1,h2,h3,h4,h5,h6⟩:=holds_mkRow 27 0 [.bool false,.slice none 0 (some 0)]
    exact⟨r,by rw[← hs1,heap_new,if_pos rfl,h1],h2,h5,h6⟩
  obtain⟨s2,g1,g2,g3,g4⟩:=bx1.store (d0:=.bool d) (d1:=u) rfl hu
  exact⟨s2,g1,g2,⟨by omega,fun x hx=>by rw[g4 x (by omega),o1.2 x hx]⟩,by omega⟩
theorem WrCell.isCell{lo hi:Nat}{s:ASt}{u:AV}{n:Nat}(h:WrCell lo hi s u n):u.isCell=true:=by
  rcases h with⟨_,a,c,rfl⟩ | ⟨L,i,_,rfl,_⟩<;>rfl
theorem wrong_out {E : Env} {lo hi : Nat} {v : AV} {us : List AV} {T : Trace20} (hT : T.length ≤ 1000000) (hL : ∀ x ∈ T, x.2.length ≤ 1000000) (v0 v1 v2 v3 v4 v5 v6 v7 v8 v9 v12 v13 v14 v15 v16 v22 v23 v24 v25 v26 v27 : AV) {Q : ARes → Prop} {s0 : ASt}
    (hend:∀s' y10 y11 y19 y20 y21,s0.next≤s'.next→(∀x,x<lo→s'.heap.get x=s0.heap.get x)→Q ⟨.exit 0,[v0,v1,v2,v3,v4,v5,v6,v7,v8,v9,y10,y11,v12,v13,v14,v15,v16,v,iv (T.length:Int),y19,y20,y21,v22,v23,v24,v25,v26,v27],[],s'⟩):
    ∀ (t:Trace20) (k:Nat) (s:ASt) (x10 x11 x20 x21:AV),T.drop k=t→k≤T.length→TrWr lo hi s v us T→s0.next≤s.next→(∀x,x<lo→s.heap.get x=s0.heap.get x) →
      WC E none (.loop c13l22) Q [v0,v1,v2,v3,v4,v5,v6,v7,v8,v9,x10,x11,v12,v13,v14,v15,v16,v,iv (T.length:Int),iv (k:Int),x20,x21,v22,v23,v24,v25,v26,v27] [] s:=by
  intro t
  induction t with
  | nil =>
    intro k s x10 x11 x20 x21 hd hk h e1 e2
    have:=drop_end hd hk
    subst this
    refine WC.loop' ?_
    simp only[c13l22,c13o14,Int.lt_irrefl,decide_false,Qa,Qb,Qc,Qd,Qe,Qf,Qg,Qh,Qi,Qj,Qk,Ql,Qm,Qn,true_and,and_true,Qo,Qp,Qq,Qr,Qs,Qt,Qu,Qv,Qw,Qx,Qy,Qz,Ra,Rb,Rc,Rd,Re,Rf,Rg,Rh,Ri,Rj,Rk,Rl,Rm,Ya,Yb,Yc,Rn,Ro,Rp,Yd,Ye,Rq,Rs,Rt,Ru,Rv,Rw,Rx]
    exact hend s _ _ _ _ _ e1 e2
  | cons x t ih =>
    intro k s x10 x11 x20 x21 hd hk h e1 e2
    obtain⟨d,L⟩:=x
    obtain⟨hlt,hx,hd'⟩:=drop_facts hd
    have hkk:decide ((k:Int)<(T.length:Int))=true:=decide_eq_true (by omega)
    have e3:=bin_add Try.prog 3 (k:Int) 1 ⟨by omega,by omega⟩
    have hcast:((k:Int)+1)=((k+1:Nat):Int):=by omega
    obtain⟨r1,u,r2,r3⟩:=h.rows k d L hx
    obtain⟨a,p1,p2⟩:=line_read h.arr hlt r1 r2
    have hal:allocA Try.prog 27=some (mkRow 27 0 [.bool false,.slice none 0 (some 0)],.ptr):=alloc27
    have hmv:∀i,Made.val i .ptr=.ptr (some (i,0)):=fun _=>rfl
    obtain⟨s2,g1,g2,g3,g4⟩:=line_box s d r3.isCell
    have h2:TrWr lo hi s2 v us T:=h.frame (g3.mono h.top)
    have hin:=wrong_in (E:=E) hx r2 (hL _ (List.mem_of_getElem? hx)) h.top v0 v1 v2 v3 v4 v5 v6 v7 v8 v9 v12 v13 v14 v15 v16 v (iv (T.length:Int)) (iv (k:Int)) (.bool true) v22 v23 v24 v25 v26 v27 (s0:=s2)
      (Q:=InBlock 2 (InBlock 1 (seqK (Qa E none (.ops c13o21) (seqK (WC E none (.loop c13l22) Q) Q)) (seqK (WC E none (.loop c13l22) Q) Q)))) (fun s' y11 y21 q1 q2 q3 q4=>by
        simp only[if_true,c13o21,e3,hcast,Qa,Qb,Qc,Qd,Qe,Qf,Qg,Qh,Qi,Qj,Qk,Ql,Qm,Qn,true_and,and_true,Qo,Qp,Qq,Qr,Qs,Qt,Qu,Qv,Qw,Qx,Qy,Qz,Ra,Rb,Rc,Rd,Re,Rf,Rg,Rh,Ri,Rj,Rk,Rl,Rm,Ya,Yb,Yc,Rn,Ro,Rp,Yd,Ye,Rq,Rs,Rt,Ru,Rv,Rw,Rx]
        exact ih (k+1) s' _ _ _ _ hd' hlt q1 (by rw[q2];exact Nat.le_trans e1 g3.1) (fun x hx=>((q3 x hx).trans (g3.2 x (by have:=h.low;have:=h.top;omega))).trans (e2 x hx))) g2 L.length 0 s2 x21 (by omega) h2 rfl (fun _ _=>rfl) (fun _ _=>rfl)
    refine WC.loop' ?_
    simp only[Qa,Qb,Qc,Qd,Qe,Qf,Qg,Qh,Qi,Qj,Qk,Ql,Qm,Qn,true_and,and_true,Qo,Qp,Qq,Qr,Qs,Qt,Qu,Qv,Qw,Qx,Qy,Qz,Ra,Rb,Rc,Rd,Re,Rf,Rg,Rh,Ri,Rj,Rk,Rl,Rm,Ya,Yb,Yc,Rn,Ro,Rp,Yd,Ye,Rq,Rs,Rt,Ru,Rv,Rw,Rx]at hin
    generalize hW:WC E none (CCode.loop c13l22) Q=W at ih hin ⊢
    simp only[c13l22,c13o14,hkk,c13o15,p1,p2,hal,hmv,on2,g1,withV,c13o16,Qa,Qb,Qc,Qd,Qe,Qf,Qg,Qh,Qi,Qj,Qk,Ql,Qm,Qn,true_and,and_true,Qo,Qp,Qq,Qr,Qs,Qt,Qu,Qv,Qw,Qx,Qy,Qz,Ra,Rb,Rc,Rd,Re,Rf,Rg,Rh,Ri,Rj,Rk,Rl,Rm,Ya,Yb,Yc,Rn,Ro,Rp,Yd,Ye,Rq,Rs,Rt,Ru,Rv,Rw,Rx]
    exact hin
theorem right_in{E:Env}{u:AV}{d:Bool}{L:List Int}{b:Nat}{s:ASt}(hL:L.length≤1000000)(hne:∀x∈L,x≠99)(hu:SliceAt b s u (ivs L)){q:Nat}(hb:Box2 s q (.bool d) u)(v0 v1 v2 v3 v4 v5 v6 v7 v8 v9 v10 v11 v14 v15 v16 v17 v18 v19 v20 v21 v22 v23 v24 v25:AV){Q:ARes→Prop}
    (hend:∀y13 y26 y27,Q ⟨.exit 6,[v0,v1,v2,v3,v4,v5,v6,v7,v8,v9,v10,v11,.ptr (some (q,0)),y13,v14,v15,v16,v17,v18,v19,v20,v21,v22,v23,v24,v25,y26,y27],[],s⟩):
    ∀ (l:List Int) (j:Nat) (x26 x27:AV),L.drop j=l→j≤L.length →
      WC E none (.loop c13l31) Q [v0,v1,v2,v3,v4,v5,v6,v7,v8,v9,v10,v11,.ptr (some (q,0)),iv (j:Int),v14,v15,v16,v17,v18,v19,v20,v21,v22,v23,v24,v25,x26,x27] [] s:=by
  have ld1:loadV Try.prog s 23 (.ptr (some (q,0+1)))=some u:=load_one ag23 hb.load1
  have ln:∀s',lenA Try.prog s' 23 u=some (iv (L.length:Int)):=fun s'=>by
    have:=hu.len Try.underlying23 s'
    rw[List.length_map]at this
    exact this
  intro l
  induction l with
  | nil =>
    intro j x26 x27 hd hj
    have:=drop_end hd hj
    subst this
    refine WC.loop' ?_
    simp only[c13l31,c13o27,fa27_1,ld1,ln,Int.lt_irrefl,decide_false,Qa,Qb,Qc,Qd,Qe,Qf,Qg,Qh,Qi,Qj,Qk,Ql,Qm,Qn,true_and,and_true,Qo,Qp,Qq,Qr,Qs,Qt,Qu,Qv,Qw,Qx,Qy,Qz,Ra,Rb,Rc,Rd,Re,Rf,Rg,Rh,Ri,Rj,Rk,Rl,Rm,Ya,Yb,Yc,Rn,Ro,Rp,Yd,Ye,Rq,Rs,Rt,Ru,Rv,Rw,Rx]
    exact hend _ _ _
  | cons x l ih =>
    intro j x26 x27 hd hj
    obtain⟨hlt,hx,hd'⟩:=drop_facts hd
    have hjj:decide ((j:Int)<(L.length:Int))=true:=decide_eq_true (by omega)
    have e4:=bin_add Try.prog 3 (j:Int) 1 ⟨by omega,by omega⟩
    have hcast:((j:Int)+1)=((j+1:Nat):Int):=by omega
    obtain⟨a,g1,g2⟩:=row_elem hu hx
    have h99:decide (x=99)=false:=decide_eq_false (hne x (List.mem_of_getElem? hx))
    refine WC.loop' ?_
    generalize hW:WC E none (CCode.loop c13l31) Q=W at ih ⊢
    simp only[c13l31,c13o27,fa27_1,ld1,ln,hjj,c13o28,g1,g2,h99,c13o30,e4,hcast,Qa,Qb,Qc,Qd,Qe,Qf,Qg,Qh,Qi,Qj,Qk,Ql,Qm,Qn,true_and,and_true,Qo,Qp,Qq,Qr,Qs,Qt,Qu,Qv,Qw,Qx,Qy,Qz,Ra,Rb,Rc,Rd,Re,Rf,Rg,Rh,Ri,Rj,Rk,Rl,Rm,Ya,Yb,Yc,Rn,Ro,Rp,Yd,Ye,Rq,Rs,Rt,Ru,Rv,Rw,Rx]
    exact ih (j+1) _ _ hd' hlt
theorem right_out {E : Env} {lo : Nat} {v : AV} {us : List AV} {T : Trace20} {O : List Nat} {s0 : ASt} (hm : MadeS lo s0 v us T O) (hT : T.length ≤ 1000000) (hL : ∀ x ∈ T, x.2.length ≤ 1000000 ∧ ∀ y ∈ x.2, y ≠ 99) (v0 v1 v2 v3 v4 v5 v6 v7 v8 v9 v10 v11 v14 v15 v16 v17 v18 v19 v20 v21 : AV) {Q : ARes → Prop}
    (hend:∀s' y12 y13 y24 y25 y26 y27,Old s0.next s0 s'→Q ⟨.exit 4,[v0,v1,v2,v3,v4,v5,v6,v7,v8,v9,v10,v11,y12,y13,v14,v15,v16,v17,v18,v19,v20,v21,v,iv (T.length:Int),y24,y25,y26,y27],[],s'⟩):
    ∀ (t:Trace20) (k:Nat) (s:ASt) (x12 x13 x25 x26 x27:AV),T.drop k=t→k≤T.length→Old s0.next s0 s →
      WC E none (.loop c13l33) Q [v0,v1,v2,v3,v4,v5,v6,v7,v8,v9,v10,v11,x12,x13,v14,v15,v16,v17,v18,v19,v20,v21,v,iv (T.length:Int),iv (k:Int),x25,x26,x27] [] s:=by
  intro t
  induction t with
  | nil =>
    intro k s x12 x13 x25 x26 x27 hd hk ho
    have:=drop_end hd hk
    subst this
    refine WC.loop' ?_
    simp only[c13l33,c13o24,Int.lt_irrefl,decide_false,Qa,Qb,Qc,Qd,Qe,Qf,Qg,Qh,Qi,Qj,Qk,Ql,Qm,Qn,true_and,and_true,Qo,Qp,Qq,Qr,Qs,Qt,Qu,Qv,Qw,Qx,Qy,Qz,Ra,Rb,Rc,Rd,Re,Rf,Rg,Rh,Ri,Rj,Rk,Rl,Rm,Ya,Yb,Yc,Rn,Ro,Rp,Yd,Ye,Rq,Rs,Rt,Ru,Rv,Rw,Rx]
    exact hend s _ _ _ _ _ _ ho
  | cons x t ih =>
    intro k s x12 x13 x25 x26 x27 hd hk ho
    obtain⟨d,L⟩:=x
    obtain⟨hlt,hx,hd'⟩:=drop_facts hd
    have hkk:decide ((k:Int)<(T.length:Int))=true:=decide_eq_true (by omega)
    have e3:=bin_add Try.prog 3 (k:Int) 1 ⟨by omega,by omega⟩
    have hcast:((k:Int)+1)=((k+1:Nat):Int):=by omega
    obtain⟨r1,u,r2,r3⟩:=hm.rows.2 k d L hx
    obtain⟨aa,cap,hv,hc⟩:=hm.dest.cells
    obtain⟨a,p1,p2⟩:=line_read ⟨aa,cap,hv,hc.old ho (Nat.le_refl _)⟩ hlt r1 r2
    have hal:allocA Try.prog 27=some (mkRow 27 0 [.bool false,.slice none 0 (some 0)],.ptr):=alloc27
    have hmv:∀i,Made.val i .ptr=.ptr (some (i,0)):=fun _=>rfl
    obtain⟨s2,g1,g2,g3,g4⟩:=line_box s d r3.isCell.1
    have ho2:Old s0.next s0 s2:=ho.trans (g3.mono ho.1)
    obtain⟨l1,l2⟩:=hL _ (List.mem_of_getElem? hx)
    have hin:=right_in (E:=E) (d:=d) l1 l2 (r3.old ho2 (Nat.le_refl _)) g2 v0 v1 v2 v3 v4 v5 v6 v7 v8 v9 v10 v11 v14 v15 v16 v17 v18 v19 v20 v21 v (iv (T.length:Int)) (iv (k:Int)) (.bool true)
      (Q:=InBlock 6 (InBlock 5 (seqK (Qa E none (.ops c13o32) (seqK (WC E none (.loop c13l33) Q) Q)) (seqK (WC E none (.loop c13l33) Q) Q)))) (fun y13 y26 y27=>by
        simp only[if_true,c13o32,e3,hcast,Qa,Qb,Qc,Qd,Qe,Qf,Qg,Qh,Qi,Qj,Qk,Ql,Qm,Qn,true_and,and_true,Qo,Qp,Qq,Qr,Qs,Qt,Qu,Qv,Qw,Qx,Qy,Qz,Ra,Rb,Rc,Rd,Re,Rf,Rg,Rh,Ri,Rj,Rk,Rl,Rm,Ya,Yb,Yc,Rn,Ro,Rp,Yd,Ye,Rq,Rs,Rt,Ru,Rv,Rw,Rx]
        exact ih (k+1) s2 _ _ _ _ _ hd' hlt ho2) L 0 x26 x27 rfl (Nat.zero_le _)
    refine WC.loop' ?_
    simp only[Qa,Qb,Qc,Qd,Qe,Qf,Qg,Qh,Qi,Qj,Qk,Ql,Qm,Qn,true_and,and_true,Qo,Qp,Qq,Qr,Qs,Qt,Qu,Qv,Qw,Qx,Qy,Qz,Ra,Rb,Rc,Rd,Re,Rf,Rg,Rh,Ri,Rj,Rk,Rl,Rm,Ya,Yb,Yc,Rn,Ro,Rp,Yd,Ye,Rq,Rs,Rt,Ru,Rv,Rw,Rx]at hin
    generalize hW:WC E none (CCode.loop c13l33) Q=W at ih hin ⊢
    simp only[c13l33,c13o24,hkk,c13o25,p1,p2,hal,hmv,on2,g1,withV,c13o26,Qa,Qb,Qc,Qd,Qe,Qf,Qg,Qh,Qi,Qj,Qk,Ql,Qm,Qn,true_and,and_true,Qo,Qp,Qq,Qr,Qs,Qt,Qu,Qv,Qw,Qx,Qy,Qz,Ra,Rb,Rc,Rd,Re,Rf,Rg,Rh,Ri,Rj,Rk,Rl,Rm,Ya,Yb,Yc,Rn,Ro,Rp,Yd,Ye,Rq,Rs,Rt,Ru,Rv,Rw,Rx]
    exact hin
theorem models_snoc{σ:Nat→Bool}{F:List (List Int)}{f:List Int}:Models σ (F++[f])↔Models σ F∧∃y∈f,Sat σ y:=by
  unfold Models
  constructor
  · intro h
    exact⟨fun g hg=>h g (List.mem_append_left _ hg),h f (by simp)⟩
  · rintro ⟨h1, h2⟩ g hg
    rcases List.mem_append.1 hg with q | q
    · exact h1 g q
    · rw[List.mem_singleton.1 q];exact h2
theorem sat_taut{σ:Nat→Bool}:∃y∈([1,-1]:List Int),Sat σ y:=by
  cases h:σ 1 with
  | true=>exact⟨1,by simp,.inl ⟨by decide,h⟩⟩
  | false=>exact⟨-1,by simp,sat1.2.2.1.2 h⟩
def Ans(n:Nat)(F:List (List Int))(c:Int)(v:Sv):Prop:=c=0∧(∀σ,¬ Models σ F)∧v.broken=true∨c=1∧Models (tells v.model) F∧v.broken=false∨c=2∧(n≤6→729<729)
theorem ans_same{n:Nat}{F G:List (List Int)}{c d:Int}{v w:Sv}(hFG:∀σ,Models σ F↔Models σ G)(hn:n≤6)(hc:Ans n F c v)(hd:Ans n G d w):c=d:=by
  rcases hc with⟨rfl,q,_⟩ | ⟨rfl,q,_⟩ | ⟨_,q⟩
  · rcases hd with ⟨rfl, _, _⟩ | ⟨_, q', _⟩ | ⟨_, q'⟩
    · rfl
    · exact absurd ((hFG _).2 q') (q _)
    · exact absurd (q' hn) (by decide)
  · rcases hd with ⟨_, q', _⟩ | ⟨rfl, _, _⟩ | ⟨_, q'⟩
    · exact absurd ((hFG _).1 q) (q' _)
    · rfl
    · exact absurd (q' hn) (by decide)
  · exact absurd (q hn) (by decide)
theorem TrOk.le{n:Nat}{T:Trace20}(h:TrOk n T)(hn:n≤6):∀x∈T,x.2.length≤1000000∧∀y∈x.2,y≠99:=fun x hx=>by
  obtain⟨_,h1,h2⟩:=h x hx
  refine⟨by omega,fun y hy e=>?_⟩
  have:=(h1 y hy).2
  rw[e]at this
  simp at this
  omega
theorem wrong_rest{E:Env}(hE:Good E){B:Nat→Prop}{s:ASt}{V:Nat→Option Sv}{n p q A A':Nat}{vp vq:Sv}{F G:List (List Int)}(hn:n≤6)(hpq:p≠q)(hS:Sols B s V)(hp:V p=some vp)(hq:V q=some vq)(ip:SI n A F 0 vp)(iq:SI n A' G 0 vq)(hA:A≤1000)(hA':A'≤1000)(tp:TrOk n vp.trace)(tq:TrOk n vq.trace)
    (hF:∀f∈F,∀y∈f,VL n y) (hG:∀f∈G,∀y∈f,VL n y) (hFG:∀σ,Models σ F↔Models σ G) (v0 v1 v2 v3 v4 v5 v8 v9 x10 x11 x12 x13 x14 x15 x16 x17 x18 x19 x20 x21 x22 x23 x24 x25 x26 x27:AV):
    Qa E none (.seq (.ops c13o12) (.seq (.seq (.ops c13o13) (.block 0 (.loop c13l22))) (.seq (.seq (.ops c13o23) (.block 4 (.loop c13l33))) (.seq (.ops c13o34) .ret)))) (Ends Try.prog c13.results (fun r _=>r=.bool true))
      [v0,v1,v2,v3,v4,v5,ptrA p,ptrA q,v8,v9,x10,x11,x12,x13,x14,x15,x16,x17,x18,x19,x20,x21,x22,x23,x24,x25,x26,x27] [] s:=by
  have h3:3 ^ n≤1900:=Nat.le_trans (Nat.pow_le_pow_right (by decide) hn) (by decide)
  have e729:iv ((729:Nat):Int)=iv 729:=rfl
  have hs1:=sols_solveJ hE hS hp (stays_tr n F) tp ip (hbd:=⟨by omega,by omega,.inl h3⟩) (most:=729) (by decide) hF
  simp only[ptrA,e729]at hs1
  simp only[c13o12,ptrA,Qa,Qb,Qc,Qd,Qe,Qf,Qg,Qh,Qi,Qj,Qk,Ql,Qm,Qn,true_and,and_true,Qo,Qp,Qq,Qr,Qs,Qt,Qu,Qv,Qw,Qx,Qy,Qz,Ra,Rb,Rc,Rd,Re,Rf,Rg,Rh,Ri,Rj,Rk,Rl,Rm,Ya,Yb,Yc,Rn,Ro,Rp,Yd,Ye,Rq,Rs,Rt,Ru,Rv,Rw,Rx]
  refine hs1.mono ?_
  rintro _ s1 ⟨c,v1',rfl,i1,t1,hc1,g1,k1⟩
  obtain⟨_,_,l1,_⟩:=i1.inv ⟨by omega,by omega,.inl h3⟩
  have hVp1:setV V p v1' p=some v1':=setV_same _ _ _
  have htle:=t1.le hn
  have htr:=sols_trace hE g1 hVp1 l1 (fun x hx=>(htle x hx).1)
  simp only[ptrA]at htr
  simp only[c13o13,Qa,Qb,Qc,Qd,Qe,Qf,Qg,Qh,Qi,Qj,Qk,Ql,Qm,Qn,true_and,and_true,Qo,Qp,Qq,Qr,Qs,Qt,Qu,Qv,Qw,Qx,Qy,Qz,Ra,Rb,Rc,Rd,Re,Rf,Rg,Rh,Ri,Rj,Rk,Rl,Rm,Ya,Yb,Yc,Rn,Ro,Rp,Yd,Ye,Rq,Rs,Rt,Ru,Rv,Rw,Rx]
  refine htr.mono ?_
  rintro r s2 ⟨us,O,hm,ho⟩
  have hw:=hm.wr ho.1
  obtain⟨a,cap,hv,_⟩:=hw.arr
  have ln:∀s',lenA Try.prog s' 33 r=some (iv (v1'.trace.length:Int)):=fun s'=>by rw[hv];exact len_slice Try.underlying33
  simp only[ln,Qa,Qb,Qc,Qd,Qe,Qf,Qg,Qh,Qi,Qj,Qk,Ql,Qm,Qn,true_and,and_true,Qo,Qp,Qq,Qr,Qs,Qt,Qu,Qv,Qw,Qx,Qy,Qz,Ra,Rb,Rc,Rd,Re,Rf,Rg,Rh,Ri,Rj,Rk,Rl,Rm,Ya,Yb,Yc,Rn,Ro,Rp,Yd,Ye,Rq,Rs,Rt,Ru,Rv,Rw,Rx]
  refine wrong_out (E:=E) (lo:=s1.next) (hi:=s2.next) (us:=us) (T:=v1'.trace) (s0:=s2) l1 (fun x hx=>(htle x hx).1) _ _ _ _ _ _ _ _ _ _ _ _ _ _ _ _ _ _ _ _ _ ?_ v1'.trace 0 s2 _ _ _ _ rfl (Nat.zero_le _) hw (Nat.le_refl _) (fun _ _=>rfl)
  intro s3 y10 y11 y19 y20 y21 e1 e2
  have ho3:Old s1.next s1 s3:=⟨by have:=ho.1;omega,fun x hx=>(e2 x hx).trans (ho.2 x hx)⟩
  have g3:=g1.old ho3
  have htr2:=sols_trace hE g3 hVp1 l1 (fun x hx=>(htle x hx).1)
  simp only[ptrA]at htr2
  simp only[if_true,c13o23,Qa,Qb,Qc,Qd,Qe,Qf,Qg,Qh,Qi,Qj,Qk,Ql,Qm,Qn,true_and,and_true,Qo,Qp,Qq,Qr,Qs,Qt,Qu,Qv,Qw,Qx,Qy,Qz,Ra,Rb,Rc,Rd,Re,Rf,Rg,Rh,Ri,Rj,Rk,Rl,Rm,Ya,Yb,Yc,Rn,Ro,Rp,Yd,Ye,Rq,Rs,Rt,Ru,Rv,Rw,Rx]
  refine htr2.mono ?_
  rintro r' s4 ⟨us',O',hm',ho'⟩
  have hw':=hm'.wr ho'.1
  obtain⟨a',cap',hv',_⟩:=hw'.arr
  have ln':∀s',lenA Try.prog s' 33 r'=some (iv (v1'.trace.length:Int)):=fun s'=>by rw[hv'];exact len_slice Try.underlying33
  simp only[ln',Qa,Qb,Qc,Qd,Qe,Qf,Qg,Qh,Qi,Qj,Qk,Ql,Qm,Qn,true_and,and_true,Qo,Qp,Qq,Qr,Qs,Qt,Qu,Qv,Qw,Qx,Qy,Qz,Ra,Rb,Rc,Rd,Re,Rf,Rg,Rh,Ri,Rj,Rk,Rl,Rm,Ya,Yb,Yc,Rn,Ro,Rp,Yd,Ye,Rq,Rs,Rt,Ru,Rv,Rw,Rx]
  refine right_out (E:=E) hm' l1 htle _ _ _ _ _ _ _ _ _ _ _ _ _ _ _ _ _ _ _ _ ?_ v1'.trace 0 s4 _ _ _ _ _ rfl (Nat.zero_le _) (Old.refl _ _)
  intro s5 y12 y13 y24 y25 y26 y27 ho5
  have g5:=g3.old (ho'.trans (ho5.mono ho'.1))
  have hVq:setV V p v1' q=some vq:=by rw[setV_ne (fun e=>hpq e.symm)];exact hq
  have hs2:=sols_solveJ hE g5 hVp1 (stays_tr n F) t1 i1 (hbd:=⟨by omega,by omega,.inl h3⟩) (most:=729) (by decide) hF
  simp only[ptrA,e729]at hs2
  simp only[if_true,show(4:Nat)≠0 by decide,c13o34,Qa,Qb,Qc,Qd,Qe,Qf,Qg,Qh,Qi,Qj,Qk,Ql,Qm,Qn,true_and,and_true,Qo,Qp,Qq,Qr,Qs,Qt,Qu,Qv,Qw,Qx,Qy,Qz,Ra,Rb,Rc,Rd,Re,Rf,Rg,Rh,Ri,Rj,Rk,Rl,Rm,Ya,Yb,Yc,Rn,Ro,Rp,Yd,Ye,Rq,Rs,Rt,Ru,Rv,Rw,Rx]
  refine hs2.mono ?_
  rintro _ s6 ⟨c2,v2',rfl,_,_,hc2,g6,_⟩
  have hVq6:setV (setV V p v1') p v2' q=some vq:=by rw[setV_ne (fun e=>hpq e.symm)];exact hVq
  have hs3:=sols_solveJ hE g6 hVq6 (stays_tr n G) tq iq (hbd:=⟨by omega,by omega,.inl h3⟩) (most:=729) (by decide) hG
  simp only[ptrA,e729]at hs3
  simp only[Qa,Qb,Qc,Qd,Qe,Qf,Qg,Qh,Qi,Qj,Qk,Ql,Qm,Qn,true_and,and_true,Qo,Qp,Qq,Qr,Qs,Qt,Qu,Qv,Qw,Qx,Qy,Qz,Ra,Rb,Rc,Rd,Re,Rf,Rg,Rh,Ri,Rj,Rk,Rl,Rm,Ya,Yb,Yc,Rn,Ro,Rp,Yd,Ye,Rq,Rs,Rt,Ru,Rv,Rw,Rx]
  refine hs3.mono ?_
  rintro _ s7 ⟨c3,v3',rfl,_,_,hc3,_,_⟩
  obtain rfl:=ans_same hFG hn hc2 hc3
  simp only[decide_true,c13,Qa,Qb,Qc,Qd,Qe,Qf,Qg,Qh,Qi,Qj,Qk,Ql,Qm,Qn,true_and,and_true,Qo,Qp,Qq,Qr,Qs,Qt,Qu,Qv,Qw,Qx,Qy,Qz,Ra,Rb,Rc,Rd,Re,Rf,Rg,Rh,Ri,Rj,Rk,Rl,Rm,Ya,Yb,Yc,Rn,Ro,Rp,Yd,Ye,Rq,Rs,Rt,Ru,Rv,Rw,Rx]
theorem models_wrong{σ:Nat→Bool}{F:List (List Int)}{x:Int}:Models σ (F++[[1,x,-1]])↔Models σ F:=by
  rw[models_snoc]
  refine⟨fun h=>h.1,fun h=>⟨h,?_⟩⟩
  obtain⟨y,hy,hs⟩:=sat_taut (σ:=σ)
  refine⟨y,?_,hs⟩
  rcases List.mem_cons.1 hy with e | e
  · rw[e];simp
  · rw[List.mem_singleton.1 e];simp
theorem wrong_ok {E : Env} (hE : Good E) {s : ASt} {b : Nat} (hb : b ≤ s.next) {d : Int} (hd : u8 d) {lit : Int} (hlit : i64 lit) {bs : List Int} (hbs : U8s bs) (hlen : bs.length < 9223372036854775808) {v : AV} (hv : SliceAt b s v (u8vs bs)) :
    WF E 13 [u8v d,v,iv lit] (fun r _=>r=.bool true) s:=by
  obtain⟨n,hn1,hn2,q1,q2,q3⟩:=vars_drawn (s:=s) hd (k:=6) (by decide)
  have hn2:n≤6:=hn2
  have h3:3 ^ n≤1900:=Nat.le_trans (Nat.pow_le_pow_right (by decide) hn2) (by decide)
  have hconv:∀s,convA Try.prog s 5 3 (u8v (d % 6))=some (iv (d % 6)):=fun s=>conv_u8 ⟨Int.emod_nonneg d (by decide),by have:=Int.emod_lt_of_pos d (show(0:Int)<6 by decide);omega⟩
  refine hE.go comp13 (by decide) rfl ?_
  simp only[c13,c13o0,c13o1,Qa,Qb,Qc,Qd,Qe,Qf,Qg,Qh,Qi,Qj,Qk,Ql,Qm,Qn,true_and,and_true,Qo,Qp,Qq,Qr,Qs,Qt,Qu,Qv,Qw,Qx,Qy,Qz,Ra,Rb,Rc,Rd,Re,Rf,Rg,Rh,Ri,Rj,Rk,Rl,Rm,Ya,Yb,Yc,Rn,Ro,Rp,Yd,Ye,Rq,Rs,Rt,Ru,Rv,Rw,Rx]
  refine(works_ok hE (sols_none s)).mono ?_
  rintro _ s1 ⟨rfl,k1⟩
  have ho1:=k1.toOld hb
  have hb1:=Nat.le_trans hb k1.1
  simp only[c13o3,q1,hconv,q3,c13o4,Qa,Qb,Qc,Qd,Qe,Qf,Qg,Qh,Qi,Qj,Qk,Ql,Qm,Qn,true_and,and_true,Qo,Qp,Qq,Qr,Qs,Qt,Qu,Qv,Qw,Qx,Qy,Qz,Ra,Rb,Rc,Rd,Re,Rf,Rg,Rh,Ri,Rj,Rk,Rl,Rm,Ya,Yb,Yc,Rn,Ro,Rp,Yd,Ye,Rq,Rs,Rt,Ru,Rv,Rw,Rx]
  refine(drawn_ok hE hb1 hn1 (by omega) (most:=30) (by decide) hbs hlen (hv.old ho1 (Nat.le_refl _))).mono ?_
  rintro l s2 ⟨us,cs,O,hmd,hdr,hcl,ho2⟩
  have hR:=hmd.rowsIn
  obtain⟨f1,f2,f3⟩:=hdr.fits
  have J0:∀v:Sv,v.trace=[]→v.cl=(fun _=>none)→v.broken=false→TrOk n v.trace:=fun v e _ _=>by rw[e];intro x hx;cases hx
  have JA:∀ (A:Nat) (F:List (List Int)) (L:List Int) (v v':Sv),L∈cs→SI n A F 0 v→TrOk n v.trace→AddR v L v'→TrOk n v'.trace:=fun A F L v v' _ _ hT hr=>hr.tr hT
  simp only[c13o5,Qa,Qb,Qc,Qd,Qe,Qf,Qg,Qh,Qi,Qj,Qk,Ql,Qm,Qn,true_and,and_true,Qo,Qp,Qq,Qr,Qs,Qt,Qu,Qv,Qw,Qx,Qy,Qz,Ra,Rb,Rc,Rd,Re,Rf,Rg,Rh,Ri,Rj,Rk,Rl,Rm,Ya,Yb,Yc,Rn,Ro,Rp,Yd,Ye,Rq,Rs,Rt,Ru,Rv,Rw,Rx]
  refine(of32J_ok hE (sols_none s2) (n:=n) (by omega) f1 (by omega) (J:=fun _ v=>TrOk n v.trace) J0 JA hR).mono ?_
  rintro _ s3 ⟨p,vp,rfl,_,g3,k3,i3,t3⟩
  simp only[Qa,Qb,Qc,Qd,Qe,Qf,Qg,Qh,Qi,Qj,Qk,Ql,Qm,Qn,true_and,and_true,Qo,Qp,Qq,Qr,Qs,Qt,Qu,Qv,Qw,Qx,Qy,Qz,Ra,Rb,Rc,Rd,Re,Rf,Rg,Rh,Ri,Rj,Rk,Rl,Rm,Ya,Yb,Yc,Rn,Ro,Rp,Yd,Ye,Rq,Rs,Rt,Ru,Rv,Rw,Rx]
  refine(of32J_ok hE g3 (n:=n) (by omega) f1 (by omega) (J:=fun _ v=>TrOk n v.trace) J0 JA (hR.keep k3)).mono ?_
  rintro _ s4 ⟨q,vq,rfl,hVq,g4,k4,i4,t4⟩
  have hVp:setV (fun _=>none) p vp p=some vp:=setV_same _ p vp
  have hpq:p≠q:=fun e=>by rw[← e,hVp]at hVq;cases hVq
  generalize hV4:setV (setV (fun _=>none) p vp) q vq=V4 at g4
  have hVp4:V4 p=some vp:=by rw[← hV4,setV_ne hpq];exact hVp
  have hVq4:V4 q=some vq:=by rw[← hV4];exact setV_same _ _ _
  have he:=eq_ptr44 p
  have he2:=eq_ptr44 q
  have hb3:sliceRowA Try.prog 23 3 (zipIdx [0,1,2] [iv 1,iv lit,iv (-1)])=some (mkRow 3 1 [iv 1,iv lit,iv (-1)]):=by
    simp[sliceRowA,Try.underlying23,sz3,guardB,zr3,zipIdx,fillA,AV.cells,rep]
    rfl
  have hmv:∀ (m:Nat) (i:Nat),Made.val i (.slice m)=.slice (some (i,0)) m (some m):=fun _ _=>rfl
  obtain⟨m1,m2⟩:=row_made (s:=s4) (L:=[1,lit,-1]) (by simp)
  have ho5:=Old.new s4 (mkRow 3 1 (ivs [1,lit,-1]))
  have g5:=g4.old ho5
  have hn5:(newObj s4 (mkRow 3 1 (ivs [1,lit,-1]))).next=s4.next+1:=rfl
  have hus:InB (fun j=>j<s2.next∨s4.next≤j∧j<s4.next+1) (.slice (some (s4.next,0)) 3 (some 3)):=fun j hj=>by rw[m2 j hj];exact .inr ⟨Nat.le_refl _,Nat.lt_succ_self _⟩
  have hiv:ivs [1,lit,-1]=[iv 1,iv lit,iv (-1)]:=rfl
  rw[hiv]at g5 m1 hn5
  have m1:SliceAt (s4.next+1) (newObj s4 (mkRow 3 1 [iv 1,iv lit,iv (-1)])) (.slice (some (s4.next,0)) 3 (some 3)) (ivs [1,lit,-1]):=m1
  generalize hs5:newObj s4 (mkRow 3 1 [iv 1,iv lit,iv (-1)])=s5 at g5 m1 hn5
  generalize ho:AV.slice (some (s4.next,0)) 3 (some 3)=own at m1 hus
  simp only[hn5]at g5
  simp only[ptrA]at he he2
  have hneg:=un_neg Try.prog (n:Int) ⟨by omega,by omega⟩
  have cs3:=hmv 3 s4.next
  have reads:∀s',Keep (fun j=>j<s2.next∨s4.next≤j∧j<s4.next+1) s5 s'→∃a0 a1,indexAddrA Try.prog 23 own (iv 0)=some a0∧loadV Try.prog s' 3 a0=some (iv 1)∧indexAddrA Try.prog 23 own (iv 1)=some a1∧loadV Try.prog s' 3 a1=some (iv lit):=fun s' hk=>by
    have hs':SliceAt (s4.next+1) s' own (ivs [1,lit,-1]):=m1.keep fun j hj=>hk.2 j (hus j hj)
    obtain⟨a0,r1,r2⟩:=row_elem hs' (j:=0) (x:=1) rfl
    obtain⟨a1,r3,r4⟩:=row_elem hs' (j:=1) (x:=lit) rfl
    exact⟨a0,a1,r1,r2,r3,r4⟩
  by_cases hV:VL n lit
  ·
    have hadd:=sols_addJ hE g5 hVp4 (J:=fun v=>TrOk n v.trace) i3 (hbd:=⟨by omega,by omega,.inl h3⟩) (f:=[1,lit,-1]) (fun x hx=>by
      simp only[List.mem_cons,List.not_mem_nil,or_false]at hx
      rcases hx with rfl | rfl | rfl
      · exact⟨by decide,by simp;omega⟩
      · exact hV
      · exact⟨by decide,by simp;omega⟩) (by simp) (fun v' hr=>hr.tr t3) (b:=s4.next+1) (by omega) m1 hus
    simp only[ptrA]at hadd
    simp only[c13o6,ptrA,he,he2,c13o8,hb3,hs5,hmv,ho,c13o9,Qa,Qb,Qc,Qd,Qe,Qf,Qg,Qh,Qi,Qj,Qk,Ql,Qm,Qn,true_and,and_true,Qo,Qp,Qq,Qr,Qs,Qt,Qu,Qv,Qw,Qx,Qy,Qz,Ra,Rb,Rc,Rd,Re,Rf,Rg,Rh,Ri,Rj,Rk,Rl,Rm,Ya,Yb,Yc,Rn,Ro,Rp,Yd,Ye,Rq,Rs,Rt,Ru,Rv,Rw,Rx]
    refine hadd.mono ?_
    rintro _ s6 ⟨rfl,v6,i6,t6,g6,k6⟩
    obtain⟨a0,a1,r1,r2,r3,r4⟩:=reads s6 k6
    have d1:decide ((0:Int)=0)=true:=rfl
    have d2:decide (lit≠0)=true:=decide_eq_true hV.1
    have d3:decide (-(n:Int)≤lit)=true:=decide_eq_true (by have:=hV.2;omega)
    have d4:decide (lit≤(n:Int))=true:=decide_eq_true (by have:=hV.2;omega)
    have d5:decide ((0:Int)≠0)=false:=rfl
    have d6:decide ((1:Int)≠1)=false:=rfl
    have d7:decide (lit≠lit)=false:=by simp
    have bnb:∀x y:Bool,binA Try.prog .neq 4 (.bool x) (.bool y)=some (.bool (x != y)):=fun x y=>by cases x<;>cases y<;>rfl
    have hrest:=wrong_rest hE hn2 hpq g6 (setV_same _ p v6) (by rw[setV_ne (fun e=>hpq e.symm)];exact hVq4) i6 i4 (by omega) (by omega) t6 t4 (fun f hf=>by
      rcases List.mem_append.1 hf with z | z
      · exact f3 f z
      · rw[List.mem_singleton.1 z]
        intro x hx
        simp only[List.mem_cons,List.not_mem_nil,or_false]at hx
        rcases hx with rfl | rfl | rfl
        · exact⟨by decide,by simp;omega⟩
        · exact hV
        · exact⟨by decide,by simp;omega⟩) f3 (fun σ=>models_wrong)
    simp only[Qa,Qb,Qc,Qd,Qe,Qf,Qg,Qh,Qi,Qj,Qk,Ql,Qm,Qn,true_and,and_true,Qo,Qp,Qq,Qr,Qs,Qt,Qu,Qv,Qw,Qx,Qy,Qz,Ra,Rb,Rc,Rd,Re,Rf,Rg,Rh,Ri,Rj,Rk,Rl,Rm,Ya,Yb,Yc,Rn,Ro,Rp,Yd,Ye,Rq,Rs,Rt,Ru,Rv,Rw,Rx]at hrest
    simp only[c13o10,d1,d2,d3,d4,d5,d6,d7,hneg,bnb,r1,r2,r3,r4,bne_self_eq_false,decide_true,decide_false,Qa,Qb,Qc,Qd,Qe,Qf,Qg,Qh,Qi,Qj,Qk,Ql,Qm,Qn,true_and,and_true,Qo,Qp,Qq,Qr,Qs,Qt,Qu,Qv,Qw,Qx,Qy,Qz,Ra,Rb,Rc,Rd,Re,Rf,Rg,Rh,Ri,Rj,Rk,Rl,Rm,Ya,Yb,Yc,Rn,Ro,Rp,Yd,Ye,Rq,Rs,Rt,Ru,Rv,Rw,Rx]
    exact hrest _ _ _ _ _ _ _ _ _ _ _ _ _ _ _ _ _ _ _ _ _ _ _ _ _ _
  · have hadd:=sols_wrong hE g5 hVp4 i3 (hbd:=⟨by omega,by omega,.inl h3⟩) (f:=[1,lit,-1]) ⟨lit,by simp,hV⟩ (by simp) (b:=s4.next+1) (by omega) m1
    simp only[ptrA]at hadd
    simp only[c13o6,ptrA,he,he2,c13o8,hb3,hs5,hmv,ho,c13o9,Qa,Qb,Qc,Qd,Qe,Qf,Qg,Qh,Qi,Qj,Qk,Ql,Qm,Qn,true_and,and_true,Qo,Qp,Qq,Qr,Qs,Qt,Qu,Qv,Qw,Qx,Qy,Qz,Ra,Rb,Rc,Rd,Re,Rf,Rg,Rh,Ri,Rj,Rk,Rl,Rm,Ya,Yb,Yc,Rn,Ro,Rp,Yd,Ye,Rq,Rs,Rt,Ru,Rv,Rw,Rx]
    refine hadd.mono ?_
    rintro _ s6 ⟨rfl,g6,k6⟩
    obtain⟨a0,a1,r1,r2,r3,r4⟩:=reads s6 k6
    have d1:decide ((2:Int)=0)=false:=rfl
    have d5:decide ((2:Int)≠0)=true:=rfl
    have d5':decide ((2:Int)≠2)=false:=rfl
    have d6:decide ((1:Int)≠1)=false:=rfl
    have d7:decide (lit≠lit)=false:=by simp
    have bnb:∀x y:Bool,binA Try.prog .neq 4 (.bool x) (.bool y)=some (.bool (x != y)):=fun x y=>by cases x<;>cases y<;>rfl
    have hrest:=wrong_rest hE hn2 hpq g6 hVp4 hVq4 i3 i4 (by omega) (by omega) t3 t4 f3 f3 (fun σ=>Iff.rfl)
    simp only[Qa,Qb,Qc,Qd,Qe,Qf,Qg,Qh,Qi,Qj,Qk,Ql,Qm,Qn,true_and,and_true,Qo,Qp,Qq,Qr,Qs,Qt,Qu,Qv,Qw,Qx,Qy,Qz,Ra,Rb,Rc,Rd,Re,Rf,Rg,Rh,Ri,Rj,Rk,Rl,Rm,Ya,Yb,Yc,Rn,Ro,Rp,Yd,Ye,Rq,Rs,Rt,Ru,Rv,Rw,Rx]at hrest
    by_cases z1:lit=0
    · have d2:decide (lit≠0)=false:=decide_eq_false fun q=>q z1
      simp only[c13o10,d1,d2,d5,d5',d6,d7,hneg,bnb,r1,r2,r3,r4,bne_self_eq_false,decide_true,decide_false,Qa,Qb,Qc,Qd,Qe,Qf,Qg,Qh,Qi,Qj,Qk,Ql,Qm,Qn,true_and,and_true,Qo,Qp,Qq,Qr,Qs,Qt,Qu,Qv,Qw,Qx,Qy,Qz,Ra,Rb,Rc,Rd,Re,Rf,Rg,Rh,Ri,Rj,Rk,Rl,Rm,Ya,Yb,Yc,Rn,Ro,Rp,Yd,Ye,Rq,Rs,Rt,Ru,Rv,Rw,Rx]
      exact hrest _ _ _ _ _ _ _ _ _ _ _ _ _ _ _ _ _ _ _ _ _ _ _ _ _ _
    · have d2:decide (lit≠0)=true:=decide_eq_true z1
      by_cases z2:-(n:Int)≤lit
      · have d3 : decide (-(n : Int) ≤ lit) = true := decide_eq_true z2
        have d4:decide (lit≤(n:Int))=false:=decide_eq_false fun q=>hV ⟨z1,by omega⟩
        simp only[c13o10,d1,d2,d3,d4,d5,d5',d6,d7,hneg,bnb,r1,r2,r3,r4,bne_self_eq_false,decide_true,decide_false,Qa,Qb,Qc,Qd,Qe,Qf,Qg,Qh,Qi,Qj,Qk,Ql,Qm,Qn,true_and,and_true,Qo,Qp,Qq,Qr,Qs,Qt,Qu,Qv,Qw,Qx,Qy,Qz,Ra,Rb,Rc,Rd,Re,Rf,Rg,Rh,Ri,Rj,Rk,Rl,Rm,Ya,Yb,Yc,Rn,Ro,Rp,Yd,Ye,Rq,Rs,Rt,Ru,Rv,Rw,Rx]
        exact hrest _ _ _ _ _ _ _ _ _ _ _ _ _ _ _ _ _ _ _ _ _ _ _ _ _ _
      · have d3:decide (-(n:Int)≤lit)=false:=decide_eq_false z2
        simp only[c13o10,d1,d2,d3,d5,d5',d6,d7,hneg,bnb,r1,r2,r3,r4,bne_self_eq_false,decide_true,decide_false,Qa,Qb,Qc,Qd,Qe,Qf,Qg,Qh,Qi,Qj,Qk,Ql,Qm,Qn,true_and,and_true,Qo,Qp,Qq,Qr,Qs,Qt,Qu,Qv,Qw,Qx,Qy,Qz,Ra,Rb,Rc,Rd,Re,Rf,Rg,Rh,Ri,Rj,Rk,Rl,Rm,Ya,Yb,Yc,Rn,Ro,Rp,Yd,Ye,Rq,Rs,Rt,Ru,Rv,Rw,Rx]
        exact hrest _ _ _ _ _ _ _ _ _ _ _ _ _ _ _ _ _ _ _ _ _ _ _ _ _ _
section
variable{H:Type}{enc:TypeId×Value→H}{W:World}{base:Nat}
theorem wrong19_true{v0 v1 v2:Value}(h0:Value.okWide Try.prog W .any base 5 v0)(h1:Value.okWide Try.prog W .any base 42 v1)(h2:Value.okWide Try.prog W .any base 3 v2)
    {d0 d1 d2:DataW H} {p0 p1 p2:List MemPlace} (t0:DataW.Trod enc Try.prog W 0 (fun _=>true) true 5 v0 d0 p0) (t1:DataW.Trod enc Try.prog W 0 (fun _=>true) true 42 v1 d1 p1) (t2:DataW.Trod enc Try.prog W 0 (fun _=>true) true 3 v2 d2 p2):
    Calls Try.prog 13 #[v0,v1,v2] W fun e W'=>e=.returned (.bool true)∧Kept W W':=by
  obtain⟨ρ,s,d,u,bs,hd,r0,r1,q1,q2,q3,q4⟩:=enter_ub h0 h1 t0 t1
  obtain⟨n2,t2⟩:=t2
  obtain⟨ρ1,s1,us1,m,g1,g2,g3,g4,rfl,g5⟩:=enter_num (q:=i64) Try.underlying3 (fun n h=>wf_i64 h) n2 _ _ t2 _ _ hd
  refine call_true g1 (.cons (r0.mono g2) (.cons (r1.mono g2) (.cons (arg_int Try.underlying3 h2 g4) .nil))) ?_
  exact wrong_ok good_envW g3.1 q1 g5 q3 q4 (q2.old g3 (Nat.le_refl _))
end
end
end Go.Proofs.Ytilhhmkdcoajnaa.Am
