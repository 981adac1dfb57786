/- The solver's state: fields' addresses, loads, appends; printed by a program of ours (dev/sv2.py); conditions: none. -/
import Derived.Test.YtilhhmkdcoajnaaAmM05
set_option linter.unusedVariables false
set_option linter.unusedSimpArgs false
set_option maxRecDepth 16000
namespace Go.Proofs.Ytilhhmkdcoajnaa.Am
open Go Go.Proofs
noncomputable section
theorem It(j:Nat):AB Try.prog 91 (.ptr (some (j,0))) 0=some (.ptr (some (j,0))):=by
 simp[AB,Try.underlying91,Cb,Gz,EB,Be,Ju,GD,AI]
 rfl
theorem NL(j:Nat):AB Try.prog 91 (.ptr (some (j,0))) 1=some (.ptr (some (j,1))):=by
 simp[AB,Try.underlying91,Cb,Gz,EB,Be,Ju,GD,AI]
 rfl
theorem ET(j:Nat):AB Try.prog 91 (.ptr (some (j,0))) 2=some (.ptr (some (j,2))):=by
 simp[AB,Try.underlying91,Cb,Gz,EB,Be,Ju,GD,AI]
 rfl
theorem Iu(j:Nat):AB Try.prog 91 (.ptr (some (j,0))) 3=some (.ptr (some (j,3))):=by
 simp[AB,Try.underlying91,Cb,Gz,EB,Be,Ju,GD,AI]
 rfl
theorem Kq(j:Nat):AB Try.prog 91 (.ptr (some (j,0))) 4=some (.ptr (some (j,4))):=by
 simp[AB,Try.underlying91,Cb,Gz,EB,Be,Ju,GD,AI]
 rfl
theorem Kr(j:Nat):AB Try.prog 91 (.ptr (some (j,0))) 5=some (.ptr (some (j,5))):=by
 simp[AB,Try.underlying91,Cb,Gz,EB,Be,Ju,GD,AI]
 rfl
theorem RK(j:Nat):AB Try.prog 91 (.ptr (some (j,0))) 6=some (.ptr (some (j,6))):=by
 simp[AB,Try.underlying91,Cb,Gz,EB,Be,Ju,GD,AI]
 rfl
theorem E0(j:Nat):AB Try.prog 91 (.ptr (some (j,0))) 7=some (.ptr (some (j,7))):=by
 simp[AB,Try.underlying91,Cb,Gz,EB,Be,Ju,GD,AI]
 rfl
theorem Ge(j:Nat):AB Try.prog 91 (.ptr (some (j,0))) 8=some (.ptr (some (j,8))):=by
 simp[AB,Try.underlying91,Cb,Gz,EB,Be,Ju,GD,AI]
 rfl
theorem Kt(j:Nat):AB Try.prog 91 (.ptr (some (j,0))) 9=some (.ptr (some (j,9))):=by
 simp[AB,Try.underlying91,Cb,Gz,EB,Be,Ju,GD,AI]
 rfl
theorem F4(j:Nat):AB Try.prog 91 (.ptr (some (j,0))) 10=some (.ptr (some (j,10))):=by
 simp[AB,Try.underlying91,Cb,Gz,EB,Be,Ju,GD,AI]
 rfl
theorem NM(j:Nat):AB Try.prog 91 (.ptr (some (j,0))) 11=some (.ptr (some (j,11))):=by
 simp[AB,Try.underlying91,Cb,Gz,EB,Be,Ju,GD,AI]
 rfl
theorem H6(j:Nat):AB Try.prog 91 (.ptr (some (j,0))) 12=some (.ptr (some (j,12))):=by
 simp[AB,Try.underlying91,Cb,Gz,EB,Be,Ju,GD,AI]
 rfl
theorem Z2(j:Nat):AB Try.prog 91 (.ptr (some (j,0))) 13=some (.ptr (some (j,13))):=by
 simp[AB,Try.underlying91,Cb,Gz,EB,Be,Ju,GD,AI]
 rfl
theorem St(j:Nat):AB Try.prog 91 (.ptr (some (j,0))) 14=some (.ptr (some (j,14))):=by
 simp[AB,Try.underlying91,Cb,Gz,EB,Be,Ju,GD,AI]
 rfl
theorem Cy(j:Nat):AB Try.prog 104 (.ptr (some (j,0))) 0=some (.ptr (some (j,0))):=by
 simp[AB,Try.underlying104,Cb,Ju,AI]
 rfl
theorem F2(j:Nat):AB Try.prog 104 (.ptr (some (j,0))) 2=some (.ptr (some (j,2))):=by
 simp[AB,Try.underlying104,Cb,Ju,AI]
 rfl
theorem AF(a:Nat×Nat):AE (.ptr (some a))=some (.ptr (some a)):=rfl
theorem Ac.ld_w{ow:Ow}{s:AG}{p:Nat}{x:Sf}{v:Sv}(h:Ac ow s p x v):AC Try.prog s 88 (.ptr (some (p,0)))=some x.w:=h.box.load rfl iO
theorem Ac.ld_l{ow:Ow}{s:AG}{p:Nat}{x:Sf}{v:Sv}(h:Ac ow s p x v):AC Try.prog s 89 (.ptr (some (p,1)))=some x.l:=h.box.load rfl Jr
theorem Ac.ld_val{ow:Ow}{s:AG}{p:Nat}{x:Sf}{v:Sv}(h:Ac ow s p x v):AC Try.prog s 23 (.ptr (some (p,2)))=some x.val:=h.box.load rfl D0
theorem Ac.ld_lev{ow:Ow}{s:AG}{p:Nat}{x:Sf}{v:Sv}(h:Ac ow s p x v):AC Try.prog s 23 (.ptr (some (p,3)))=some x.lev:=h.box.load rfl D0
theorem Ac.ld_why{ow:Ow}{s:AG}{p:Nat}{x:Sf}{v:Sv}(h:Ac ow s p x v):AC Try.prog s 89 (.ptr (some (p,4)))=some x.why:=h.box.load rfl Jr
theorem Ac.ld_heat{ow:Ow}{s:AG}{p:Nat}{x:Sf}{v:Sv}(h:Ac ow s p x v):AC Try.prog s 23 (.ptr (some (p,5)))=some x.heat:=h.box.load rfl D0
theorem Ac.ld_ph{ow:Ow}{s:AG}{p:Nat}{x:Sf}{v:Sv}(h:Ac ow s p x v):AC Try.prog s 23 (.ptr (some (p,6)))=some x.ph:=h.box.load rfl D0
theorem Ac.ld_tr{ow:Ow}{s:AG}{p:Nat}{x:Sf}{v:Sv}(h:Ac ow s p x v):AC Try.prog s 23 (.ptr (some (p,7)))=some x.tr:=h.box.load rfl D0
theorem Ac.ld_lim{ow:Ow}{s:AG}{p:Nat}{x:Sf}{v:Sv}(h:Ac ow s p x v):AC Try.prog s 23 (.ptr (some (p,8)))=some x.lim:=h.box.load rfl D0
theorem Ac.ld_mo{ow:Ow}{s:AG}{p:Nat}{x:Sf}{v:Sv}(h:Ac ow s p x v):AC Try.prog s 23 (.ptr (some (p,11)))=some x.mo:=h.box.load rfl D0
theorem Ac.ld_trc{ow:Ow}{s:AG}{p:Nat}{x:Sf}{v:Sv}(h:Ac ow s p x v):AC Try.prog s 33 (.ptr (some (p,12)))=some x.trc:=h.box.load rfl jh
theorem Ac.ld_head{ow:Ow}{s:AG}{p:Nat}{x:Sf}{v:Sv}(h:Ac ow s p x v):AC Try.prog s 3 (.ptr (some (p,9)))=some (iv v.head):=h.box.load rfl Df
theorem Ac.ld_broken{ow:Ow}{s:AG}{p:Nat}{x:Sf}{v:Sv}(h:Ac ow s p x v):AC Try.prog s 4 (.ptr (some (p,10)))=some (.bool v.broken):=h.box.load rfl jj
theorem Ac.ld_many{ow:Ow}{s:AG}{p:Nat}{x:Sf}{v:Sv}(h:Ac ow s p x v):AC Try.prog s 3 (.ptr (some (p,13)))=some (iv v.many):=h.box.load rfl Df
theorem Ac.ld_room{ow:Ow}{s:AG}{p:Nat}{x:Sf}{v:Sv}(h:Ac ow s p x v):AC Try.prog s 3 (.ptr (some (p,14)))=some (iv v.room):=h.box.load rfl Df
theorem SP:B8 Try.prog 92 1=true:=by simp[B8,SQ,AV.cells]
theorem gv:B8 Try.prog 89 1=true:=by simp[B8,jT,AV.cells]
theorem PU:BG Try.prog 89=true:=UQ 89 92 Try.underlying89
theorem jO:BG Try.prog 88=true:=UQ 88 89 Try.underlying88
theorem LZ:BG Try.prog 23=true:=UQ 23 3 Try.underlying23
theorem Ac.push_learned{ow:Ow}{s:AG}{p:Nat}{x:Sf}{v:Sv}(h:Ac ow s p x v)(hl:v.learned.length≤1000000000)(y:Nat){q:Nat}{ty sz':Nat}(hq:s.heap.get q=some (AO ty sz' [AJ y])):
  ∃u s' s'' ow',Ad Try.prog s [89,89] [x.l,.slice (some (q,0)) 1 (some 1)]=some (u,s')∧AN Try.prog s' 89 (.ptr (some (p,1))) u=some s''∧Ac ow' s'' p { x with l:=u } { v with learned:=v.learned++[y] }∧AH (S4 p 3) ow s ow' s'':=by
 obtain⟨u,s',ow',g1,g2,g3⟩:=h.learned.push (st:=89) (e:=92) Try.underlying89 El Uv (by decide) PU SP (by rw[kn];exact hl) (x:=AJ y) rfl hq
 have hm:∀a i,a≠3→¬ ((p,a,i):BT)=(p,3,0):=fun a i ha=>CA ha
 have hl:=h.lt
 have hn:=g3.next
 have hb:C8 s' p (DL x v):=h.box.step g3 h.tag h.lt (hm 0 0 (by decide))
 have ht:ow' p=(p,0,0):=by rw[g3.tags p h.lt (by rw[h.tag];exact hm 0 0 (by decide))];exact h.tag
 obtain⟨s'',k1,k2,k3,k4⟩:=hb.store (k:=1) (d:=u) (by simp) (t:=89) EB g2.isCell.1 g2.isCell.2
 have st:AH (· = (p,0,0)) ow' s' ow' s'':=⟨by omega,fun _ _ _=>rfl,fun y _ hm=>k4 y fun e=>hm (by rw[e];exact ht)⟩
 have hm0:∀a i,a≠0→¬ ((p,a,i):BT)=(p,0,0):=fun a i ha=>CA ha
 refine⟨u,s',s'',ow',g1,k1,{ box:=k2,tag:=ht,lt:=by omega,w:=(h.w.step g3 (hm 1 0 (by decide)) (fun j=>hm 2 j (by decide))).step st (hm0 1 0 (by decide)) (fun j=>hm0 2 j (by decide)),learned:=?_,value:=(h.value.step g3 (hm 4 0 (by decide))).step st (hm0 4 0 (by decide)),level:=(h.level.step g3 (hm 5 0 (by decide))).step st (hm0 5 0 (by decide)),why:=(h.why.step g3 (hm 6 0 (by decide))).step st (hm0 6 0 (by decide)),heat:=(h.heat.step g3 (hm 7 0 (by decide))).step st (hm0 7 0 (by decide)),phase:=(h.phase.step g3 (hm 8 0 (by decide))).step st (hm0 8 0 (by decide)),trail:=(h.trail.step g3 (hm 9 0 (by decide))).step st (hm0 9 0 (by decide)),limits:=(h.limits.step g3 (hm 10 0 (by decide))).step st (hm0 10 0 (by decide)),model:=(h.model.step g3 (hm 11 0 (by decide))).step st (hm0 11 0 (by decide)),trace:=(h.trace.step g3 (hm 12 0 (by decide)) (hm 13 0 (by decide))).step st (hm0 12 0 (by decide)) (hm0 13 0 (by decide)),cls:=fun c l hc=>((h.cls c l hc).step g3 (hm 14 c (by decide)) (hm 15 c (by decide))).step st (hm0 14 c (by decide)) (hm0 15 c (by decide)) },(g3.mono fun t ht=>.inr ht).trans (st.mono fun t ht=>.inl ht)⟩
 have e:(v.learned++[y]).map AJ=v.learned.map AJ++[AJ y]:=by rw[la];rfl
 show BO ow' (p,3,0) s'' u ((v.learned++[y]).map AJ)
 rw[e]
 exact g2.step st (hm0 3 0 (by decide))
theorem Ac.push_trail{ow:Ow}{s:AG}{p:Nat}{x:Sf}{v:Sv}(h:Ac ow s p x v)(hl:v.trail.length≤1000000000)(y:Int){q:Nat}{ty sz':Nat}(hq:s.heap.get q=some (AO ty sz' [iv y])):
  ∃u s' s'' ow',Ad Try.prog s [23,23] [x.tr,.slice (some (q,0)) 1 (some 1)]=some (u,s')∧AN Try.prog s' 23 (.ptr (some (p,7))) u=some s''∧Ac ow' s'' p { x with tr:=u } { v with trail:=v.trail++[y] }∧AH (S4 p 9) ow s ow' s'':=by
 obtain⟨u,s',ow',g1,g2,g3⟩:=h.trail.push (st:=23) (e:=3) Try.underlying23 Be Y0 (by decide) LZ Id (by rw[kn];exact hl) (x:=iv y) rfl hq
 have hm:∀a i,a≠9→¬ ((p,a,i):BT)=(p,9,0):=fun a i ha=>CA ha
 have hl:=h.lt
 have hn:=g3.next
 have hb:C8 s' p (DL x v):=h.box.step g3 h.tag h.lt (hm 0 0 (by decide))
 have ht:ow' p=(p,0,0):=by rw[g3.tags p h.lt (by rw[h.tag];exact hm 0 0 (by decide))];exact h.tag
 obtain⟨s'',k1,k2,k3,k4⟩:=hb.store (k:=7) (d:=u) (by simp) (t:=23) Cb g2.isCell.1 g2.isCell.2
 have st:AH (· = (p,0,0)) ow' s' ow' s'':=⟨by omega,fun _ _ _=>rfl,fun y _ hm=>k4 y fun e=>hm (by rw[e];exact ht)⟩
 have hm0:∀a i,a≠0→¬ ((p,a,i):BT)=(p,0,0):=fun a i ha=>CA ha
 refine⟨u,s',s'',ow',g1,k1,{ box:=k2,tag:=ht,lt:=by omega,w:=(h.w.step g3 (hm 1 0 (by decide)) (fun j=>hm 2 j (by decide))).step st (hm0 1 0 (by decide)) (fun j=>hm0 2 j (by decide)),learned:=(h.learned.step g3 (hm 3 0 (by decide))).step st (hm0 3 0 (by decide)),value:=(h.value.step g3 (hm 4 0 (by decide))).step st (hm0 4 0 (by decide)),level:=(h.level.step g3 (hm 5 0 (by decide))).step st (hm0 5 0 (by decide)),why:=(h.why.step g3 (hm 6 0 (by decide))).step st (hm0 6 0 (by decide)),heat:=(h.heat.step g3 (hm 7 0 (by decide))).step st (hm0 7 0 (by decide)),phase:=(h.phase.step g3 (hm 8 0 (by decide))).step st (hm0 8 0 (by decide)),trail:=?_,limits:=(h.limits.step g3 (hm 10 0 (by decide))).step st (hm0 10 0 (by decide)),model:=(h.model.step g3 (hm 11 0 (by decide))).step st (hm0 11 0 (by decide)),trace:=(h.trace.step g3 (hm 12 0 (by decide)) (hm 13 0 (by decide))).step st (hm0 12 0 (by decide)) (hm0 13 0 (by decide)),cls:=fun c l hc=>((h.cls c l hc).step g3 (hm 14 c (by decide)) (hm 15 c (by decide))).step st (hm0 14 c (by decide)) (hm0 15 c (by decide)) },(g3.mono fun t ht=>.inr ht).trans (st.mono fun t ht=>.inl ht)⟩
 have e:(v.trail++[y]).map iv=v.trail.map iv++[iv y]:=by rw[la];rfl
 show BO ow' (p,9,0) s'' u ((v.trail++[y]).map iv)
 rw[e]
 exact g2.step st (hm0 9 0 (by decide))
theorem Ac.push_limits{ow:Ow}{s:AG}{p:Nat}{x:Sf}{v:Sv}(h:Ac ow s p x v)(hl:v.limits.length≤1000000000)(y:Int){q:Nat}{ty sz':Nat}(hq:s.heap.get q=some (AO ty sz' [iv y])):
  ∃u s' s'' ow',Ad Try.prog s [23,23] [x.lim,.slice (some (q,0)) 1 (some 1)]=some (u,s')∧AN Try.prog s' 23 (.ptr (some (p,8))) u=some s''∧Ac ow' s'' p { x with lim:=u } { v with limits:=v.limits++[y] }∧AH (S4 p 10) ow s ow' s'':=by
 obtain⟨u,s',ow',g1,g2,g3⟩:=h.limits.push (st:=23) (e:=3) Try.underlying23 Be Y0 (by decide) LZ Id (by rw[kn];exact hl) (x:=iv y) rfl hq
 have hm:∀a i,a≠10→¬ ((p,a,i):BT)=(p,10,0):=fun a i ha=>CA ha
 have hl:=h.lt
 have hn:=g3.next
 have hb:C8 s' p (DL x v):=h.box.step g3 h.tag h.lt (hm 0 0 (by decide))
 have ht:ow' p=(p,0,0):=by rw[g3.tags p h.lt (by rw[h.tag];exact hm 0 0 (by decide))];exact h.tag
 obtain⟨s'',k1,k2,k3,k4⟩:=hb.store (k:=8) (d:=u) (by simp) (t:=23) Cb g2.isCell.1 g2.isCell.2
 have st:AH (· = (p,0,0)) ow' s' ow' s'':=⟨by omega,fun _ _ _=>rfl,fun y _ hm=>k4 y fun e=>hm (by rw[e];exact ht)⟩
 have hm0:∀a i,a≠0→¬ ((p,a,i):BT)=(p,0,0):=fun a i ha=>CA ha
 refine⟨u,s',s'',ow',g1,k1,{ box:=k2,tag:=ht,lt:=by omega,w:=(h.w.step g3 (hm 1 0 (by decide)) (fun j=>hm 2 j (by decide))).step st (hm0 1 0 (by decide)) (fun j=>hm0 2 j (by decide)),learned:=(h.learned.step g3 (hm 3 0 (by decide))).step st (hm0 3 0 (by decide)),value:=(h.value.step g3 (hm 4 0 (by decide))).step st (hm0 4 0 (by decide)),level:=(h.level.step g3 (hm 5 0 (by decide))).step st (hm0 5 0 (by decide)),why:=(h.why.step g3 (hm 6 0 (by decide))).step st (hm0 6 0 (by decide)),heat:=(h.heat.step g3 (hm 7 0 (by decide))).step st (hm0 7 0 (by decide)),phase:=(h.phase.step g3 (hm 8 0 (by decide))).step st (hm0 8 0 (by decide)),trail:=(h.trail.step g3 (hm 9 0 (by decide))).step st (hm0 9 0 (by decide)),limits:=?_,model:=(h.model.step g3 (hm 11 0 (by decide))).step st (hm0 11 0 (by decide)),trace:=(h.trace.step g3 (hm 12 0 (by decide)) (hm 13 0 (by decide))).step st (hm0 12 0 (by decide)) (hm0 13 0 (by decide)),cls:=fun c l hc=>((h.cls c l hc).step g3 (hm 14 c (by decide)) (hm 15 c (by decide))).step st (hm0 14 c (by decide)) (hm0 15 c (by decide)) },(g3.mono fun t ht=>.inr ht).trans (st.mono fun t ht=>.inl ht)⟩
 have e:(v.limits++[y]).map iv=v.limits.map iv++[iv y]:=by rw[la];rfl
 show BO ow' (p,10,0) s'' u ((v.limits++[y]).map iv)
 rw[e]
 exact g2.step st (hm0 10 0 (by decide))
theorem Ac.watch_in{ow:Ow}{s:AG}{p:Nat}{x:Sf}{v:Sv}(h:Ac ow s p x v){k:Nat}{L:List Nat}(hk:v.watches[k]? = some L)(hl:L.length≤1000000000)(c:Nat){q:Nat}{ty sz':Nat}(hq:s.heap.get q=some (AO ty sz' [AJ c])):
  ∃u u' s' s'' ow',AD Try.prog 88 x.w (iv (k:Int))=some (Az x.w k)∧AC Try.prog s 89 (Az x.w k)=some u∧Ad Try.prog s [89,89] [u,.slice (some (q,0)) 1 (some 1)]=some (u',s')∧AC Try.prog s' 88 (.ptr (some (p,0)))=some x.w∧AN Try.prog s' 89 (Az x.w k) u'=some s'' ∧
   Ac ow' s'' p x { v with watches:=v.watches.set k (L++[c]) }∧AH (Ja p) ow s ow' s''∧∀j,j<v.watches.length→j≠k→AC Try.prog s'' 89 (Az x.w j)=AC Try.prog s 89 (Az x.w j):=by
 obtain⟨us,w1,w2,w3⟩:=h.w
 obtain⟨u,hu1,hu2⟩:=w3 k L hk
 have hkl:k<v.watches.length:=Af hk
 obtain⟨u',s',ow',g1,g2,g3⟩:=hu2.push (st:=89) (e:=92) Try.underlying89 El Uv (by decide) PU SP (by rw[kn];exact hl) (x:=AJ c) rfl hq
 have hm:∀a i,(a,i)≠(2,k)→¬ ((p,a,i):BT)=(p,2,k):=fun a i ha e=>by
  injection e with _ e
  exact ha e
 have hm':∀a i,a≠2→¬ ((p,a,i):BT)=(p,2,k):=fun a i ha=>CA ha
 have hlt:=h.lt
 have hn:=g3.next
 have w2':BO ow' (p,1,0) s' x.w us:=w2.step g3 (hm' 1 0 (by decide))
 obtain⟨s'',k1,k2,k3,k4⟩:=w2'.set (t:=89) EB (k:=k) (x:=u') (by omega) g2.isCell.1 g2.isCell.2
 have hm1:∀a i,a≠1→¬ ((p,a,i):BT)=(p,1,0):=fun a i ha=>CA ha
 refine⟨u,u',s',s'',ow',w2.addr Try.underlying88 EB (by omega),w2.get Jr hu1,g1,(h.box.step g3 h.tag h.lt (hm' 0 0 (by decide))).load rfl iO,k1,{ box:=(h.box.step g3 h.tag h.lt (hm' 0 0 (by decide))).step k3 (by rw[g3.tags p h.lt (by rw[h.tag];exact hm' 0 0 (by decide))];exact h.tag) (by omega) (hm1 0 0 (by decide)),tag:=by rw[g3.tags p h.lt (by rw[h.tag];exact hm' 0 0 (by decide))];exact h.tag,lt:=by omega,w:=?_,learned:=(h.learned.step g3 (hm' 3 0 (by decide))).step k3 (hm1 3 0 (by decide)),value:=(h.value.step g3 (hm' 4 0 (by decide))).step k3 (hm1 4 0 (by decide)),level:=(h.level.step g3 (hm' 5 0 (by decide))).step k3 (hm1 5 0 (by decide)),why:=(h.why.step g3 (hm' 6 0 (by decide))).step k3 (hm1 6 0 (by decide)),heat:=(h.heat.step g3 (hm' 7 0 (by decide))).step k3 (hm1 7 0 (by decide)),phase:=(h.phase.step g3 (hm' 8 0 (by decide))).step k3 (hm1 8 0 (by decide)),trail:=(h.trail.step g3 (hm' 9 0 (by decide))).step k3 (hm1 9 0 (by decide)),limits:=(h.limits.step g3 (hm' 10 0 (by decide))).step k3 (hm1 10 0 (by decide)),model:=(h.model.step g3 (hm' 11 0 (by decide))).step k3 (hm1 11 0 (by decide)),trace:=(h.trace.step g3 (hm' 12 0 (by decide)) (hm' 13 0 (by decide))).step k3 (hm1 12 0 (by decide)) (hm1 13 0 (by decide)),cls:=fun c l hc=>((h.cls c l hc).step g3 (hm' 14 c (by decide)) (hm' 15 c (by decide))).step k3 (hm1 14 c (by decide)) (hm1 15 c (by decide)) },(g3.mono fun t ht=>by rw[ht];exact⟨rfl,.inr rfl⟩).trans (k3.mono fun t ht=>by rw[ht];exact⟨rfl,.inl rfl⟩),fun j hj hne=>?_⟩
 rotate_left
 ·have hju:us[j]? = some us[j]:=ky (by omega)
  rw[w2.get Jr hju]
  exact k2.get Jr (by rw[lH,if_neg (fun e=>hne e.symm)];exact hju)
 refine⟨us.set k u',by rw[kv,kv,w1],k2,fun j M hj=>?_⟩
 rw[lH]at hj
 by_cases e:k=j
 ·subst e
  rw[if_pos rfl,if_pos hkl]at hj
  injection hj with hj
  subst hj
  refine⟨u',by rw[lH,if_pos rfl,if_pos (by omega)],?_⟩
  have e':ES (L++[c])=ES L++[AJ c]:=by
   show List.map AJ (L++[c])=List.map AJ L++[AJ c]
   rw[la];rfl
  rw[e']
  exact g2.step k3 (hm1 2 k (by decide))
 ·rw[if_neg e]at hj
  obtain⟨w,q1,q2⟩:=w3 j M hj
  exact⟨w,by rw[lH,if_neg e];exact q1,(q2.step g3 (hm 2 j (fun q=>by injection q with _ q;exact e q.symm))).step k3 (hm1 2 j (by decide))⟩
theorem Ac.watch_set{ow:Ow}{s:AG}{p:Nat}{x:Sf}{v:Sv}(h:Ac ow s p x v){k:Nat}(hk:k<v.watches.length){u':AV}{L':List Nat}(hu:BO ow (p,2,k) s u' (ES L')):
  ∃s'',AN Try.prog s 89 (Az x.w k) u'=some s''∧Ac ow s'' p x { v with watches:=v.watches.set k L' }∧AH (Ja p) ow s ow s''∧s''.next=s.next:=by
 obtain⟨us,w1,w2,w3⟩:=h.w
 have hlt:=h.lt
 obtain⟨s'',k1,k2,k3,k4⟩:=w2.set (t:=89) EB (k:=k) (x:=u') (by omega) hu.isCell.1 hu.isCell.2
 have hm1:∀a i,a≠1→¬ ((p,a,i):BT)=(p,1,0):=fun a i ha=>CA ha
 refine⟨s'',k1,{ box:=h.box.step k3 h.tag h.lt (hm1 0 0 (by decide)),tag:=h.tag,lt:=by omega,w:=?_,learned:=h.learned.step k3 (hm1 3 0 (by decide)),value:=h.value.step k3 (hm1 4 0 (by decide)),level:=h.level.step k3 (hm1 5 0 (by decide)),why:=h.why.step k3 (hm1 6 0 (by decide)),heat:=h.heat.step k3 (hm1 7 0 (by decide)),phase:=h.phase.step k3 (hm1 8 0 (by decide)),trail:=h.trail.step k3 (hm1 9 0 (by decide)),limits:=h.limits.step k3 (hm1 10 0 (by decide)),model:=h.model.step k3 (hm1 11 0 (by decide)),trace:=h.trace.step k3 (hm1 12 0 (by decide)) (hm1 13 0 (by decide)),cls:=fun c l hc=>(h.cls c l hc).step k3 (hm1 14 c (by decide)) (hm1 15 c (by decide)) },k3.mono fun t ht=>by rw[ht];exact⟨rfl,.inl rfl⟩,k4⟩
 refine⟨us.set k u',by rw[kv,kv,w1],k2,fun j M hj=>?_⟩
 rw[lH]at hj
 by_cases e:k=j
 ·subst e
  rw[if_pos rfl,if_pos hk]at hj
  injection hj with hj
  subst hj
  exact⟨u',by rw[lH,if_pos rfl,if_pos (by omega)],hu.step k3 (hm1 2 k (by decide))⟩
 ·rw[if_neg e]at hj
  obtain⟨w,q1,q2⟩:=w3 j M hj
  exact⟨w,by rw[lH,if_neg e];exact q1,q2.step k3 (hm1 2 j (by decide))⟩
theorem Ac.put_lit{ow:Ow}{s:AG}{p:Nat}{x:Sf}{v:Sv}(h:Ac ow s p x v){c:Nat}{ls:List Int}{b:Bool×Bool}(hc:v.cl c=some (ls,b)){k:Nat}(hk:k<ls.length)(y:Int){u:AV}(hu:AC Try.prog s 23 (.ptr (some (c,0)))=some u):
  ∃s',AN Try.prog s 3 (Az u k) (iv y)=some s'∧Ac ow s' p x { v with cl:=fun d=>if d=c then some (ls.set k y,b)else v.cl d }∧AH (BI p) ow s ow s'∧s'.next=s.next∧AC Try.prog s' 23 (.ptr (some (c,0)))=some u:=by
 obtain⟨u',g1,g2,g3,g4⟩:=h.cls c _ hc
 have e:u'=u:=by
  have:=g1.load (k:=0) rfl (t:=23) D0
  rw[hu]at this
  injection this with this
  exact this.symm
 subst e
 obtain⟨s',k1,k2,k3,k4⟩:=g4.set (t:=3) Be (k:=k) (x:=iv y) (by rw[kn];exact hk) rfl rfl
 have hm:∀a i,a≠15→¬ ((p,a,i):BT)=(p,15,c):=fun a i ha=>CA ha
 have hlt:=h.lt
 have hbc:C8 s' c [u',.bool b.1,.bool b.2]:=g1.step k3 g2 g3 (hm 14 c (by decide))
 refine⟨s',k1,{ box:=h.box.step k3 h.tag h.lt (hm 0 0 (by decide)),tag:=h.tag,lt:=by omega,w:=h.w.step k3 (hm 1 0 (by decide)) (fun j=>hm 2 j (by decide)),learned:=h.learned.step k3 (hm 3 0 (by decide)),value:=h.value.step k3 (hm 4 0 (by decide)),level:=h.level.step k3 (hm 5 0 (by decide)),why:=h.why.step k3 (hm 6 0 (by decide)),heat:=h.heat.step k3 (hm 7 0 (by decide)),phase:=h.phase.step k3 (hm 8 0 (by decide)),trail:=h.trail.step k3 (hm 9 0 (by decide)),limits:=h.limits.step k3 (hm 10 0 (by decide)),model:=h.model.step k3 (hm 11 0 (by decide)),trace:=h.trace.step k3 (hm 12 0 (by decide)) (hm 13 0 (by decide)),cls:=fun d l hd=>?_ },k3.mono fun t ht=>by rw[ht];exact⟨rfl,by simp,by simp,by simp⟩,k4,hbc.load (k:=0) rfl D0⟩
 have hd:(if d=c then some (ls.set k y,b)else v.cl d)=some l:=hd
 by_cases ed:d=c
 ·subst ed
  rw[if_pos rfl]at hd
  injection hd with hd
  subst hd
  exact⟨u',hbc,g2,by omega,by show BO ow (p,15,d) s' u' (List.map _ (List.set ls k y));rw[lx];exact k2⟩
 ·rw[if_neg ed]at hd
  exact(h.cls d l hd).step k3 (hm 14 d (by decide)) (fun q=>by injection q with _ q;injection q with _ q;exact ed q)
theorem Ac.lits{ow:Ow}{s:AG}{p:Nat}{x:Sf}{v:Sv}(h:Ac ow s p x v){c:Nat}{l:A5}(hc:v.cl c=some l):∃u,AC Try.prog s 23 (.ptr (some (c,0)))=some u∧AC Try.prog s 4 (.ptr (some (c,1)))=some (.bool l.2.1)∧AC Try.prog s 4 (.ptr (some (c,2)))=some (.bool l.2.2)∧BO ow (p,15,c) s u (A3 l.1)∧c<s.next:=by
 obtain⟨u,g1,g2,g3,g4⟩:=h.cls c l hc
 exact⟨u,g1.load rfl D0,g1.load rfl jj,g1.load rfl jj,g4,g3⟩
def Pc(l:Int):Int:=if l<0 then -1 else 1
def place(l:Int):Nat:=if l<0 then 1+2 * l.natAbs else 2 * l.natAbs
def VL(n:Nat)(l:Int):Prop:=l≠0∧l.natAbs≤n
instance (n:Nat)(l:Int):Decidable (VL n l):=by unfold VL;exact inferInstance
theorem VL.place{n:Nat}{l:Int}(h:VL n l):place l<2 * n+2:=by
 obtain⟨h1,h2⟩:=h
 unfold Go.Proofs.Ytilhhmkdcoajnaa.Am.place
 split<;>omega
theorem D9{l k:Int}(hl:l≠0)(hk:k≠0)(h:place l=place k):l=k:=by
 unfold Go.Proofs.Ytilhhmkdcoajnaa.Am.place at h
 split at h<;>split at h<;>omega
theorem My{n:Nat}(hn:n<1000000000){l:Int}(h:VL n l):AM Try.prog .quo 3 (iv l) (iv (l.natAbs:Int))=some (iv (Pc l)):=by
 obtain⟨h1,h2⟩:=h
 have hne:(l.natAbs:Int)≠0:=by omega
 have hq:l.tdiv (l.natAbs:Int)=Pc l:=by
  unfold Pc
  split
  ·have:l=-(l.natAbs:Int):=by omega
   generalize l.natAbs=m at *
   subst this
   rw[Int.neg_tdiv,Int.tdiv_self hne]
  ·have:l=(l.natAbs:Int):=by omega
   generalize l.natAbs=m at *
   subst this
   rw[Int.tdiv_self hne]
 have hk:Bb .i64 .i64=true:=rfl
 show AI (Bb .i64 .i64) ((EX Try.prog (Op.intDiv .quo .i64 l (l.natAbs:Int))).bind ofValue)=_
 rw[hk]
 unfold Op.intDiv
 rw[if_neg hne,hq]
 have hs:Pc l=-1∨Pc l=1:=by unfold Pc;split<;>simp
 rcases hs with e | e<;>rw[e]<;>rfl
theorem Cu{E:BJ}(hE:Good E){s:AG}{l:Int}(hl:i64 (-l)):WF E 90 [iv l] (fun r s'=>r=iv (l.natAbs:Int)∧s=s') s:=by
 refine hE.go gM (by decide) rfl ?_
 have e:max l (-l)=(l.natAbs:Int):=by omega
 simp only[ke,dW,dX,FT _ l hl,aD,e,Qa,Qb,Qc,Qd,Qe,Qf,Qg,Qh,Qi,Qj,Qk,Ql,Qm,Qn,true_and,and_true,Qo,Qp,Qq,Qr,Qs,Qt,Qu,Qv,Qw,Qx,Qy,Qz,Ra,Rb,Rc,Rd,Re,Rf,Rg,Rh,Ri,Rj,Rk,Rl,Rm,Ya,Yb,Yc,Rn,Ro,Rp,Yd,Ye,Rq,Rs,Rt,Ru,Rv,Rw,Rx]
theorem Fm{E:BJ}(hE:Good E){s:AG}{l:Int}(hl:l.natAbs<1000000000):WF E 91 [iv l] (fun r s'=>r=iv (place l:Int)∧s=s') s:=by
 refine hE.go gN (by decide) rfl ?_
 have e1:=Jy Try.prog 3 2 l ⟨by omega,by omega⟩
 have e2:=EF Try.prog 3 1 (2 * l) ⟨by omega,by omega⟩
 by_cases h:l<0
 ·have e3:(1:Int) - 2 * l=(place l:Int):=by unfold place;rw[if_pos h];omega
  simp only[jv,W8,W9,dY,decide_eq_true h,e1,e2,e3,Qa,Qb,Qc,Qd,Qe,Qf,Qg,Qh,Qi,Qj,Qk,Ql,Qm,Qn,true_and,and_true,Qo,Qp,Qq,Qr,Qs,Qt,Qu,Qv,Qw,Qx,Qy,Qz,Ra,Rb,Rc,Rd,Re,Rf,Rg,Rh,Ri,Rj,Rk,Rl,Rm,Ya,Yb,Yc,Rn,Ro,Rp,Yd,Ye,Rq,Rs,Rt,Ru,Rv,Rw,Rx]
 ·have e3:(2:Int) * l=(place l:Int):=by unfold place;rw[if_neg h];omega
  simp only[jv,W8,W9,dZ,decide_eq_false h,e1,Qa,Qb,Qc,Qd,Qe,Qf,Qg,Qh,Qi,Qj,Qk,Ql,Qm,Qn,true_and,and_true,Qo,Qp,Qq,Qr,Qs,Qt,Qu,Qv,Qw,Qx,Qy,Qz,Ra,Rb,Rc,Rd,Re,Rf,Rg,Rh,Ri,Rj,Rk,Rl,Rm,Ya,Yb,Yc,Rn,Ro,Rp,Yd,Ye,Rq,Rs,Rt,Ru,Rv,Rw,Rx]
  rw[e3]
def isV(val:List Int)(l:Int):Int:=if l<0 then -(val.getD l.natAbs 0)else val.getD l.natAbs 0
def Mu(val:List Int):Prop:=∀x∈val,x=-1∨x=0∨x=1
theorem Mu.get{val:List Int}(h:Mu val)(k:Nat):val.getD k 0=-1∨val.getD k 0=0∨val.getD k 0=1:=by
 rw[lK]
 cases hk:val[k]? with
 | none=>exact .inr (.inl rfl)
 | some x=>exact h x (kq hk)
theorem AQ{α:Type}{l:List α}{k:Nat}{d:α}(h:k<l.length):l[k]? = some (l.getD k d):=by
 rw[lK,ky h];rfl
theorem JZ{E:BJ}(hE:Good E){ow:Ow}{s:AG}{p:Nat}{x:Sf}{v:Sv}(h:Ac ow s p x v)(h3:Mu v.value){l:Int}(hl:l.natAbs<v.value.length)(hs:v.value.length<1000000000):WF E 77 [AJ p,iv l] (fun r s'=>r=iv (isV v.value l)∧s=s') s:=by
  refine hE.go gI (by decide) rfl ?_
  have hg:=AQ (d:=(0:Int)) hl
  have g1:=h.value.addr Try.underlying23 Be (k:=l.natAbs) (by rw[kn];exact hl)
  have g2:=h.value.get (t:=3) Df (k:=l.natAbs) (Av hg)
  have hv:=h3.get l.natAbs
  unfold isV
  by_cases hn:l<0
  · have e : -l = (l.natAbs : Int) := by omega
    have eN:=FT Try.prog l ⟨by omega,by omega⟩
    rw[e]at eN
    have e2:=FT Try.prog (v.value.getD l.natAbs 0) ⟨by omega,by omega⟩
    rw[if_pos hn]
    simp only[jt,Ww,Wx,dN,decide_eq_true hn,AJ,AF,ET,h.ld_val,eN,g1,g2,e2,Qa,Qb,Qc,Qd,Qe,Qf,Qg,Qh,Qi,Qj,Qk,Ql,Qm,Qn,true_and,and_true,Qo,Qp,Qq,Qr,Qs,Qt,Qu,Qv,Qw,Qx,Qy,Qz,Ra,Rb,Rc,Rd,Re,Rf,Rg,Rh,Ri,Rj,Rk,Rl,Rm,Ya,Yb,Yc,Rn,Ro,Rp,Yd,Ye,Rq,Rs,Rt,Ru,Rv,Rw,Rx]
  · have e:l=(l.natAbs:Int):=by omega
    rw[if_neg hn]
    have g1':AD Try.prog 23 x.val (iv l)=some (Az x.val l.natAbs):=by rw[← g1];congr 2;
    simp only[jt,Ww,Wx,dO,decide_eq_false hn,AJ,AF,ET,h.ld_val,g1',g2,Qa,Qb,Qc,Qd,Qe,Qf,Qg,Qh,Qi,Qj,Qk,Ql,Qm,Qn,true_and,and_true,Qo,Qp,Qq,Qr,Qs,Qt,Qu,Qv,Qw,Qx,Qy,Qz,Ra,Rb,Rc,Rd,Re,Rf,Rg,Rh,Ri,Rj,Rk,Rl,Rm,Ya,Yb,Yc,Rn,Ro,Rp,Yd,Ye,Rq,Rs,Rt,Ru,Rv,Rw,Rx]
def BF(v:Sv)(l:Int)(w:Option Nat):Sv:={ v with value:=v.value.set l.natAbs (Pc l),level:=v.level.set l.natAbs (v.limits.length:Int),why:=v.why.set l.natAbs w,trail:=v.trail++[l] }
structure au(n:Nat)(v:Sv):Prop where
 small:n<100000000
 w:v.watches.length=2 * n+2
 value:v.value.length=n+1
 level:v.level.length=n+1
 why:v.why.length=n+1
 heat:v.heat.length=n+1
 phase:v.phase.length=n+1
 trail:v.trail.length≤n
 limits:v.limits.length≤n
theorem FZ{E:BJ}(hE:Good E){ow:Ow}{s:AG}{p:Nat}{x:Sf}{v:Sv}(h:Ac ow s p x v){n:Nat}(hz:au n v){l:Int}(hl:VL n l)(w:Option Nat):
  WF E 71 [AJ p,iv l,G4 w] (fun _ s'=>∃ow' x',Ac ow' s' p x' (BF v l w)∧AH (BI p) ow s ow' s'∧x'.w=x.w) s:=by
 have hn:=hz.small
 obtain⟨hl0,hl1⟩:=hl
 have hq:=My (n:=n) (by omega) ⟨hl0,hl1⟩
 have hk:l.natAbs<n+1:=by omega
 refine hE.go gC (by decide) rfl ?_
 simp only[kV,dA,Qa,Qb,Qc,Qd,Qe,Qf,Qg,Qh,Qi,Qj,Qk,Ql,Qm,Qn,true_and,and_true,Qo,Qp,Qq,Qr,Qs,Qt,Qu,Qv,Qw,Qx,Qy,Qz,Ra,Rb,Rc,Rd,Re,Rf,Rg,Rh,Ri,Rj,Rk,Rl,Rm,Ya,Yb,Yc,Rn,Ro,Rp,Yd,Ye,Rq,Rs,Rt,Ru,Rv,Rw,Rx]
 refine(Cu hE (l:=l) ⟨by omega,by omega⟩).mono ?_
 rintro _ _ ⟨rfl,rfl⟩
 obtain⟨s1,a1,a2,a3,a4⟩:=h.put_value (k:=l.natAbs) (by rw[hz.value];exact hk) (Pc l)
 obtain⟨s2,b1,b2,b3,b4⟩:=a2.put_level (k:=l.natAbs) (by show l.natAbs<v.level.length;rw[hz.level];exact hk) (v.limits.length:Int)
 obtain⟨s3,d1,d2,d3,d4⟩:=b2.put_why (k:=l.natAbs) (by show l.natAbs<v.why.length;rw[hz.why];exact hk) w
 have i1:=h.value.addr Try.underlying23 Be (k:=l.natAbs) (by rw[kn,hz.value];exact hk)
 have i2:=h.level.addr Try.underlying23 Be (k:=l.natAbs) (by rw[kn,hz.level];exact hk)
 have i3:=h.why.addr Try.underlying89 El (k:=l.natAbs) (by rw[kn,hz.why];exact hk)
 have ln:∀s,A6 Try.prog s 23 x.lim=some (iv (v.limits.length:Int)):=fun s=>by
  have:=h.limits.len Try.underlying23 s
  rw[kn]at this
  exact this
 have b:=Cj (P:=Try.prog) (t:=23) (v:=iv l) Try.underlying23 Be Pd rfl rfl
 have hms:∀ (m:Nat) (i:Nat),Made.val i (.slice m)=.slice (some (i,0)) m (some m):=fun _ _=>rfl
 have hst:AH (BI p) ow s3 (ext ow s3.next (0,0,0)) (newObj s3 (AO 3 1 [iv l])):=AH.new _ ow s3 _ _
 have d2':=d2.keep (AH.new (fun _=>False) ow s3 (AO 3 1 [iv l]) (0,0,0)) (fun _ q=>q.elim)
 obtain⟨u,s5,s6,ow',f1,f2,f3,f4⟩:=d2'.push_trail (by show v.trail.length≤_;have:=hz.trail;omega) l (q:=s3.next) (ty:=3) (sz':=1) (by rw[AY,if_pos rfl])
 have ld:=d2'.ld_tr
 have ld3:=d2.ld_tr
 simp only[dB,AJ,AF,ET,Iu,Kq,Ge,h.ld_val,h.ld_lev,h.ld_why,h.ld_lim,hq,ln,i1,i2,i3,BU,a1,b1,d1,AX,Mv,Ap,Qa,Qb,Qc,Qd,Qe,Qf,Qg,Qh,Qi,Qj,Qk,Ql,Qm,Qn,true_and,and_true,Qo,Qp,Qq,Qr,Qs,Qt,Qu,Qv,Qw,Qx,Qy,Qz,Ra,Rb,Rc,Rd,Re,Rf,Rg,Rh,Ri,Rj,Rk,Rl,Rm,Ya,Yb,Yc,Rn,Ro,Rp,Yd,Ye,Rq,Rs,Rt,Ru,Rv,Rw,Rx]
 have hself:Fs (iv (v.limits.length:Int)) (iv (v.limits.length:Int))=true:=by simp[Fs,Bb,F1]
 simp only[hself,dC,AJ,AF,E0,ld3,b,hms,f1,BU,f2,AX,Qa,Qb,Qc,Qd,Qe,Qf,Qg,Qh,Qi,Qj,Qk,Ql,Qm,Qn,true_and,and_true,Qo,Qp,Qq,Qr,Qs,Qt,Qu,Qv,Qw,Qx,Qy,Qz,Ra,Rb,Rc,Rd,Re,Rf,Rg,Rh,Ri,Rj,Rk,Rl,Rm,Ya,Yb,Yc,Rn,Ro,Rp,Yd,Ye,Rq,Rs,Rt,Ru,Rv,Rw,Rx]
 exact⟨ow',_,f3,(a3.trans (b3.trans d3)).trans (hst.trans (f4.n (by decide) (by decide) (by decide))),rfl⟩
theorem Ae.elem{b:Nat}{s:AG}{u:AV}{cs:List AV}(h:Ae b s u cs){t e:TypeId}(ht:Try.prog.underlying t=some (.slice e))(hs:BD Try.prog e=some 1)(ha:Fy Try.prog e=some false){k:Nat}{y:AV}(hk:cs[k]? = some y):
  AD Try.prog t u (iv (k:Int))=some (Az u k)∧AC Try.prog s e (Az u k)=some y:=by
 obtain⟨a,cap,rfl,hc⟩:=h
 obtain⟨i,o,rfl,_,hl⟩:=hc k y hk
 exact⟨Bc ht hs (Af hk),CG ha (by rw[lY];exact hl)⟩
theorem Ae.len{b:Nat}{s:AG}{u:AV}{cs:List AV}(h:Ae b s u cs){t e:TypeId}(ht:Try.prog.underlying t=some (.slice e))(s':AG):A6 Try.prog s' t u=some (iv (cs.length:Int)):=by
 obtain⟨a,cap,rfl,_⟩:=h
 exact BV ht
def Ci(ws:List (List Nat))(k c:Nat):List (List Nat):=ws.set k (ws.getD k []++[c])
theorem Cv(ws:List (List Nat))(k c:Nat):(Ci ws k c).length=ws.length:=kv
def KH(ws:List (List Nat)):Prop:=∀L∈ws,L.length≤100000000
def Ct(v:Sv)(l:Int):Sv:={ v with phase:=v.phase.set l.natAbs (v.value.getD l.natAbs 0),value:=v.value.set l.natAbs 0,why:=v.why.set l.natAbs none }
def GV(v:Sv)(at_ level:Nat):Sv:={ (v.trail.drop at_).foldl Ct v with trail:=v.trail.take at_,limits:=v.limits.take level,head:=at_ }
def AW(v:Sv)(level:Nat):Sv:=if v.limits.length≤level then v else GV v (v.limits.getD level 0).toNat level
theorem K0:∀ (l:List Int)(v:Sv),(l.foldl Ct v).trail=v.trail∧(l.foldl Ct v).limits=v.limits∧(l.foldl Ct v).value.length=v.value.length∧(l.foldl Ct v).phase.length=v.phase.length∧(l.foldl Ct v).why.length=v.why.length
 | [],v=>⟨rfl,rfl,rfl,rfl,rfl⟩
 | x::l,v=>by
  obtain⟨h1,h2,h3,h4,h5⟩:=K0 l (Ct v x)
  exact⟨h1,h2,h3.trans kv,h4.trans kv,h5.trans kv⟩
theorem ZB{E:BJ}(hE:Good E){p:Nat}{tr:List Int}{n at_:Nat}(hn:n<100000000)(htr:∀l∈tr,VL n l)(htl:tr.length≤n)(hat:at_≤tr.length){trv:AV}(v1 v2:AV){ow:Ow}{Q:Ar→Prop}:
    ∀ (l : List Int) (k : Nat) (s : AG)  (x : Sf) (v : Sv) (x3 x4 x9 : AV), (tr.drop at_).drop k = l → k ≤ tr.length - at_ → Ac  ow s p x v → v.trail = tr → x.tr = trv → v.value.length = n + 1 → v.phase.length = n + 1 → v.why.length = n + 1 →
      (∀s' x' y3 y4 y8 y9,Ac ow s' p x' (l.foldl Ct v)→x'.tr=trv→x'.w=x.w→AH (BI p) ow s ow s'→Q ⟨.exit 0,[AJ p,v1,v2,y3,y4,.bool false,Dw trv at_,iv ((tr.length - at_:Nat):Int),y8,y9],[],s'⟩) →
      WC E none (.loop OE) Q [AJ p,v1,v2,x3,x4,.bool false,Dw trv at_,iv ((tr.length - at_:Nat):Int),iv (k:Int),x9] [] s:=by
  intro l
  induction l with
  | nil =>
    intro k s x v x3 x4 x9 hd hk h h1 h2 h3 h4 h5 hq
    have hlk:k=tr.length - at_:=by
      have:=congrArg List.length hd
      simp at this
      omega
    subst hlk
    refine WC.loop' ?_
    simp only[OE,WY,lT,decide_false,Qa,Qb,Qc,Qd,Qe,Qf,Qg,Qh,Qi,Qj,Qk,Ql,Qm,Qn,true_and,and_true,Qo,Qp,Qq,Qr,Qs,Qt,Qu,Qv,Qw,Qx,Qy,Qz,Ra,Rb,Rc,Rd,Re,Rf,Rg,Rh,Ri,Rj,Rk,Rl,Rm,Ya,Yb,Yc,Rn,Ro,Rp,Yd,Ye,Rq,Rs,Rt,Ru,Rv,Rw,Rx]
    exact hq s x _ _ _ _ h h2 rfl (AH.refl _ _ _)
  | cons y l ih =>
    intro k s x v x3 x4 x9 hd hk h h1 h2 h3 h4 h5 hq
    obtain⟨hlt,hy,hd'⟩:=DP hd
    rw[lw]at hlt
    have hyt:y∈tr:=mh (kq hy)
    obtain⟨hy0,hy1⟩:=htr y hyt
    have hkk:decide ((k:Int)<((tr.length - at_:Nat):Int))=true:=decide_eq_true (by omega)
    have e3:=Ao Try.prog 3 (k:Int) 1 ⟨by omega,by omega⟩
    have hcast:((k:Int)+1)=((k+1:Nat):Int):=by omega
    have hb:=h.trail
    rw[h1]at hb
    obtain⟨_,hrest⟩:=hb.rest Try.underlying23 Be (k:=at_) (by rw[kn];exact hat)
    rw[h2,← mS]at hrest
    obtain⟨i1,i2⟩:=hrest.elem Try.underlying23 Be Df (Av hy)
    have hkv:y.natAbs<n+1:=by omega
    have hg:=AQ (d:=(0:Int)) (show y.natAbs<v.value.length by omega)
    obtain⟨s1,a1,a2,a3,a4⟩:=h.put_phase (k:=y.natAbs) (by omega) (v.value.getD y.natAbs 0)
    obtain⟨s2,b1,b2,b3,b4⟩:=a2.put_value (k:=y.natAbs) (by show y.natAbs<v.value.length;omega) 0
    obtain⟨s3,d1,d2,d3,d4⟩:=b2.put_why (k:=y.natAbs) (by show y.natAbs<v.why.length;omega) none
    have j1:=h.value.addr Try.underlying23 Be (k:=y.natAbs) (by rw[kn];omega)
    have j2:=h.value.get (t:=3) Df (k:=y.natAbs) (Av hg)
    have j3:=h.phase.addr Try.underlying23 Be (k:=y.natAbs) (by rw[kn];omega)
    have j4:=h.why.addr Try.underlying89 El (k:=y.natAbs) (by rw[kn];omega)
    refine WC.loop' ?_
    generalize hW:WC E none (Aa.loop OE) Q=W
    simp only[OE,WY,cD,cE,hkk,i1,i2,Qa,Qb,Qc,Qd,Qe,Qf,Qg,Qh,Qi,Qj,Qk,Ql,Qm,Qn,true_and,and_true,Qo,Qp,Qq,Qr,Qs,Qt,Qu,Qv,Qw,Qx,Qy,Qz,Ra,Rb,Rc,Rd,Re,Rf,Rg,Rh,Ri,Rj,Rk,Rl,Rm,Ya,Yb,Yc,Rn,Ro,Rp,Yd,Ye,Rq,Rs,Rt,Ru,Rv,Rw,Rx]
    refine(Cu hE (l:=y) ⟨by omega,by omega⟩).mono ?_
    rintro _ _ ⟨rfl,rfl⟩
    have hwn:G4 none=.ptr none:=rfl
    rw[hwn]at d1
    simp only[cF,AJ,AF,RK,ET,Kq,h.ld_ph,h.ld_val,h.ld_why,j1,j2,j3,j4,BU,a1,b1,d1,AX,cG,e3,hcast,Qa,Qb,Qc,Qd,Qe,Qf,Qg,Qh,Qi,Qj,Qk,Ql,Qm,Qn,true_and,and_true,Qo,Qp,Qq,Qr,Qs,Qt,Qu,Qv,Qw,Qx,Qy,Qz,Ra,Rb,Rc,Rd,Re,Rf,Rg,Rh,Ri,Rj,Rk,Rl,Rm,Ya,Yb,Yc,Rn,Ro,Rp,Yd,Ye,Rq,Rs,Rt,Ru,Rv,Rw,Rx]
    rw[← hW]
    have hst:AH (BI p) ow s ow s3:=a3.trans (b3.trans d3)
    refine ih (k+1) s3 x (Ct v y) _ _ _ ?_ (by omega) d2 h1 h2 ?_ ?_ ?_ fun s' x' y3 y4 y8 y9 q1 q2 q4 q3=>hq s' x' y3 y4 y8 y9 q1 q2 q4 (hst.trans q3)
    · exact hd'
    · show(v.value.set _ _).length=_;rw[kv];exact h3
    · show(v.phase.set _ _).length=_;rw[kv];exact h4
    · show(v.why.set _ _).length=_;rw[kv];exact h5
structure Lm(n:Nat)(v:Sv):Prop where
 siz:au n v
 val:Mu v.value
 lits:∀l∈v.trail,VL n l
 lims:∀x∈v.limits,0≤x∧x≤v.trail.length
theorem DC{E:BJ}(hE:Good E){ow:Ow}{s:AG}{p:Nat}{x:Sf}{v:Sv}(h:Ac ow s p x v){n:Nat}(hf:Lm n v){level:Nat}(hlev:level<100000000):
    WF E 63 [AJ p,iv (level:Int)] (fun _ s'=>∃x',Ac ow s' p x' (AW v level)∧AH (BI p) ow s ow s'∧x'.w=x.w) s:=by
  have hz:=hf.siz
  have hn:=hz.small
  have hll:=hz.limits
  have ln:∀s,A6 Try.prog s 23 x.lim=some (iv (v.limits.length:Int)):=fun s=>by
    have:=h.limits.len Try.underlying23 s
    rw[kn]at this
    exact this
  refine hE.go fv (by decide) rfl ?_
  by_cases hle:v.limits.length≤level
  · have hd : decide ((v.limits.length : Int) ≤ (level : Int)) = true := decide_eq_true (by omega)
    have hb:AW v level=v:=if_pos hle
    simp only[jp,WX,AJ,AF,Ge,h.ld_lim,ln,hd,Qa,Qb,Qc,Qd,Qe,Qf,Qg,Qh,Qi,Qj,Qk,Ql,Qm,Qn,true_and,and_true,Qo,Qp,Qq,Qr,Qs,Qt,Qu,Qv,Qw,Qx,Qy,Qz,Ra,Rb,Rc,Rd,Re,Rf,Rg,Rh,Ri,Rj,Rk,Rl,Rm,Ya,Yb,Yc,Rn,Ro,Rp,Yd,Ye,Rq,Rs,Rt,Ru,Rv,Rw,Rx]
    rw[hb]
    exact⟨x,h,AH.refl _ _ _,rfl⟩
  · have hd : decide ((v.limits.length : Int) ≤ (level : Int)) = false := decide_eq_false (by omega)
    have hb:AW v level=GV v (v.limits.getD level 0).toNat level:=if_neg hle
    have hg:=AQ (d:=(0:Int)) (show level<v.limits.length by omega)
    have hlim:=hf.lims _ (kq hg)
    have hat:v.limits.getD level 0=(((v.limits.getD level 0).toNat:Nat):Int):=by omega
    rw[hb]
    generalize hae:(v.limits.getD level 0).toNat=at_ at hat
    rw[hat]at hg hlim
    have hatl:at_≤v.trail.length:=by omega
    have i1:=h.limits.addr Try.underlying23 Be (k:=level) (by rw[kn];omega)
    have i2:=h.limits.get (t:=3) Df (k:=level) (Av hg)
    obtain⟨r1,r2⟩:=h.trail.rest Try.underlying23 Be (k:=at_) (by rw[kn];exact hatl)
    have r3:=r2.len Try.underlying23 s
    rw[← mS,kn,lw]at r3
    simp only[jp,WX,cB,cC,AJ,AF,Ge,E0,h.ld_lim,h.ld_tr,ln,hd,i1,i2,r1,r3,Qa,Qb,Qc,Qd,Qe,Qf,Qg,Qh,Qi,Qj,Qk,Ql,Qm,Qn,true_and,and_true,Qo,Qp,Qq,Qr,Qs,Qt,Qu,Qv,Qw,Qx,Qy,Qz,Ra,Rb,Rc,Rd,Re,Rf,Rg,Rh,Ri,Rj,Rk,Rl,Rm,Ya,Yb,Yc,Rn,Ro,Rp,Yd,Ye,Rq,Rs,Rt,Ru,Rv,Rw,Rx]
    refine ZB hE (p:=p) hn hf.lits hz.trail hatl _ _ (v.trail.drop at_) 0 s x v _ _ _ rfl (ku _) h rfl rfl hz.value hz.phase hz.why ?_
    intro s1 x1 y3 y4 y8 y9 k1 k2 k4 k3
    obtain⟨f1,f2,_,_,_⟩:=K0 (v.trail.drop at_) v
    generalize hv1:(v.trail.drop at_).foldl Ct v=v1 at k1 f1 f2
    have hbt:GV v at_ level={ v1 with trail:=v.trail.take at_,limits:=v.limits.take level,head:=(at_:Int) }:=by unfold GV;rw[hv1]
    have c1:=k1.trail.cut_op Try.underlying23 Be (k:=at_) (by rw[kn,f1];exact hatl)
    have c2:=k1.limits.cut_op Try.underlying23 Be (k:=level) (by rw[kn,f2];omega)
    have c1':=k1.trail.cut (k:=at_) (by rw[kn,f1];exact hatl)
    have c2':=k1.limits.cut (k:=level) (by rw[kn,f2];omega)
    rw[← mL]at c1' c2'
    obtain⟨s2,a1,a2,a3,a4⟩:=k1.set_trail (y:=v1.trail.take at_) c1'
    have c2'':BO ow (p,10,0) s2 (FE x1.lim level) (A3 (v1.limits.take level)):=by
      have:=a2.limits.cut (k:=level) (by rw[kn];show level≤v1.limits.length;rw[f2];omega)
      rw[← mL]at this
      exact this
    have c2o:=a2.limits.cut_op Try.underlying23 Be (k:=level) (by rw[kn];show level≤v1.limits.length;rw[f2];omega)
    obtain⟨s3,b1,b2,b3,b4⟩:=a2.set_limits (y:=v1.limits.take level) c2''
    obtain⟨s4,d1,d2,d3,d4⟩:=b2.set_head (at_:Int)
    have hself:Fs (FE x1.lim level) (FE x1.lim level)=true:=c2'.self
    simp only[if_true,cH,AJ,AF,E0,Ge,Kt,k1.ld_tr,k1.ld_lim,c1,c2,BU,a1,b1,d1,AX,Mv,Ap,c2o,hself,Qa,Qb,Qc,Qd,Qe,Qf,Qg,Qh,Qi,Qj,Qk,Ql,Qm,Qn,true_and,and_true,Qo,Qp,Qq,Qr,Qs,Qt,Qu,Qv,Qw,Qx,Qy,Qz,Ra,Rb,Rc,Rd,Re,Rf,Rg,Rh,Ri,Rj,Rk,Rl,Rm,Ya,Yb,Yc,Rn,Ro,Rp,Yd,Ye,Rq,Rs,Rt,Ru,Rv,Rw,Rx]
    rw[hbt]
    rw[f1,f2]at d2
    exact⟨_,d2,k3.trans (a3.trans (b3.trans d3)),k4⟩
def FJ(u:AV)(m:Nat):AV:=match u with
 | .slice (some (i,o)) n _=>.slice (some (i,o)) m (some n)
 | _=>.slice none 0 (some 0)
theorem BO.kept{ow:Ow}{T:BT}{s:AG}{u:AV}{cs:List AV}(h:BO ow T s u cs){m:Nat}(hm:m≤cs.length):BO ow T s (FJ u m) (cs.take m):=by
 rcases h with⟨rfl,rfl⟩ | ⟨i,o,cap,r,rfl,h2,h3,h4,h5⟩
 ·have:m=0:=by simpa using hm
  subst this
  exact .inl ⟨rfl,rfl⟩
 ·have hl:(cs.take m).length=m:=by rw[lI];omega
  refine .inr ⟨i,o,some cs.length,r,by rw[hl];rfl,h2,fun j u hj=>?_,by omega,by rw[hl];exact⟨hm,h4⟩⟩
  rw[mY]at hj
  split at hj
  ·exact h3 j u hj
  ·cases hj
theorem BO.kept_op{ow:Ow}{T:BT}{s:AG}{u:AV}{cs:List AV}(h:BO ow T s u cs){t e:TypeId}(ht:Try.prog.underlying t=some (.slice e))(hs:BD Try.prog e=some 1):
  Ai Try.prog t false true true s [u,iv 0,iv (cs.length:Int)]=some (FJ u 0):=by
 have hb0:∀m,BA (.int .i64 0) m=some 0:=fun m=>by simp[BA,E5,Ov,AI,BY (ku m)]
 rcases h with⟨rfl,rfl⟩ | ⟨i,o,cap,r,rfl,h2,h3,h4,h5⟩
 ·have hb:BA (.int .i64 0) 0=some 0:=rfl
  show A2 Try.prog s t (.slice none 0 (some 0)) none (some (iv 0)) (some (iv (([]:List AV).length:Int)))=_
  simp[A2,ht,hs,hb,AI,FJ]
 ·cases cap with
  | some c =>
   have hb:BA (iv (cs.length:Int)) c=some cs.length:=by simp[BA,E5,C1,AI,BY h5.1]
   show A2 Try.prog s t (.slice (some (i,o)) cs.length (some c)) none (some (iv 0)) (some (iv (cs.length:Int)))=_
   cases hz:Nat.beq cs.length 0<;>simp[A2,ht,hs,hb,hb0,AI,hz,FJ]
  | none =>
   obtain⟨h5,h6⟩:=h5
   subst h5
   have hb:BA (iv (cs.length:Int)) r.n=some cs.length:=by simp[BA,E5,C1,AI,BY (show cs.length≤r.n by omega)]
   have hrow:rowAt s i=some r:=by simp[rowAt,h2.get]
   show A2 Try.prog s t (.slice (some (i,0)) cs.length none) none (some (iv 0)) (some (iv (cs.length:Int)))=_
   cases hz:Nat.beq cs.length 0<;>simp[A2,ht,hs,hrow,h2.sz,AI,hb,hb0,BY (ku r.n),show Nat.beq 1 0=false from rfl,fG h6,hz,FJ]
theorem BO.kept_put  {ow : Ow} {T : BT}  {s : AG}  {u : AV} {cs : List AV} (h : BO  ow T s u cs) {st e : TypeId} {by_ : Nat} (ht : Try.prog.underlying st = some (.slice e)) (hs : BD    Try.prog e = some 1) (hb : Cf     Try.prog e = some by_) (hby : by_ ≤ 100) (hx : BG           Try.prog st = true)
    (hl:cs.length≤1000000000) {m:Nat} {add:List AV} (hm:m+add.length≤cs.length) (hc:A7 add=true) {w:AV} {b:Nat} (hw:Ae b s w add):
    ∃s',Ad Try.prog s [st,st] [FJ u m,w]=some (FJ u (m+add.length),s')∧BO ow T s' u (cs.take m++add++cs.drop (m+add.length))∧AH (· = T) ow s ow s'∧s'.next=s.next:=by
  have hsrc:CK Try.prog s e 1 w=some (add.length,add)∧∃aw cw,w=.slice aw add.length cw:=by
    obtain⟨aw,cw,rfl,hcw⟩:=hw
    refine⟨?_,aw,cw,rfl⟩
    cases add with
    | nil=>cases aw with
      | none=>rfl
      | some io=>obtain⟨i,o⟩:=io;rfl
    | cons y add=>exact Ae.src hcw rfl (by simp)
  obtain⟨hsrc,aw,cw,rfl⟩:=hsrc
  have hmul:(m+add.length) * by_≤(m+add.length) * 100:=mg _ hby
  rcases h with⟨rfl,rfl⟩ | ⟨i,o,cap,r,rfl,h2,h3,h4,h5⟩
  · have h0 : m + add.length ≤ 0 := hm
    have hm0:m=0:=by omega
    have ha0:add=[]:=List.length_eq_zero_iff.1 (by omega)
    subst hm0;subst ha0
    refine⟨s,?_,.inl ⟨rfl,rfl⟩,AH.refl _ _ _,rfl⟩
    show Ad Try.prog s [st,st] [.slice none 0 (some 0),_]=_
    rw[Bs ht hs hb (by decide) hx hsrc hc (by simp) (by simp)]
    rfl
  · have happ:=Bs (st:=st) (xt:=st) (a:=some (i,o)) (n:=m) (cap:=some cs.length) ht hs hb (by decide) hx hsrc hc (by omega) (by omega)
    show ∃s',Ad Try.prog s [st,st] [.slice (some (i,o)) m (some cs.length),.slice aw add.length cw]=some (.slice (some (i,o)) (m+add.length) (some cs.length),s')∧_
    rw[happ]
    simp only[appTo,DA,BY hm,cond_true]
    cases ha:add with
    | nil =>
      refine⟨s,rfl,.inr ⟨i,o,cap,r,by simp,h2,fun k u hk=>?_,by simpa using h4,by simpa using h5⟩,AH.refl _ _ _,rfl⟩
      refine h3 k u ?_
      simpa using hk
    | cons y ys =>
      rw[← ha]
      obtain⟨s',g1,g2,g3,g4⟩:=h2.store (o:=o+m * 1) (vs:=add) (by rw[ha];simp) (by omega) hc
      have hlen:(cs.take m++add++cs.drop (m+add.length)).length=cs.length:=by simp;omega
      refine⟨s',by rw[g1];rfl,.inr ⟨i,o,cap,_,by rw[hlen],g2,fun k u hk=>?_,by rw[hlen];exact h4,by rw[hlen];exact h5⟩,g3,g4⟩
      show(Ag.fill r.c (o+m * 1) add).get (o+k)=some u
      rw[lY]
      have hmt:(cs.take m).length=m:=by rw[lI];omega
      rw[mD]at hk
      rcases ks k m with h' | h'
      · rw [E1       (by omega)]
        rw[lG (by omega),lk h']at hk
        exact h3 k u hk
      · rw [lL                         (by omega), hmt] at hk
        rcases ks (k - m) add.length with h'' | h''
        · rw [lG                        h''] at hk
          rw[show o+k=o+m+(k - m) by omega]
          exact Co hk
        · rw [lL                         h'', lX]                 at hk
          rw[Ag.get_fill,if_neg (by omega)]
          refine h3 k u ?_
          rw[← hk]
          congr 1
          omega
theorem Ac.watch_buf{ow:Ow}{s:AG}{p:Nat}{x:Sf}{v:Sv}(h:Ac ow s p x v){k:Nat}{L:List Nat}(hk:v.watches[k]? = some L):
  ∃u,AD Try.prog 88 x.w (iv (k:Int))=some (Az x.w k)∧AC Try.prog s 89 (Az x.w k)=some u∧BO ow (p,2,k) s u (ES L):=by
 obtain⟨us,w1,w2,w3⟩:=h.w
 obtain⟨u,hu1,hu2⟩:=w3 k L hk
 have hkl:=Af hk
 exact⟨u,w2.addr Try.underlying88 EB (by omega),w2.get Jr hu1,hu2⟩
theorem Ac.watch_put{ow:Ow}{s s':AG}{p:Nat}{x:Sf}{v:Sv}(h:Ac ow s p x v){k:Nat}{L L':List Nat}(hk:v.watches[k]? = some L){u:AV}(hu:AC Try.prog s 89 (Az x.w k)=some u)(hb:BO ow (p,2,k) s' u (ES L'))(st:AH (· = (p,2,k)) ow s ow s')(hn:s'.next=s.next):
  Ac ow s' p x { v with watches:=v.watches.set k L' }∧AC Try.prog s' 89 (Az x.w k)=some u:=by
 obtain⟨us,w1,w2,w3⟩:=h.w
 have hkl:=Af hk
 obtain⟨u0,hu1,hu2⟩:=w3 k L hk
 have e:u0=u:=by
  have:=w2.get Jr hu1
  rw[hu]at this
  injection this with this
  exact this.symm
 subst e
 have hm:∀a i,(a,i)≠(2,k)→¬ ((p,a,i):BT)=(p,2,k):=fun a i ha e=>by
  injection e with _ e
  exact ha e
 have hm':∀a i,a≠2→¬ ((p,a,i):BT)=(p,2,k):=fun a i ha=>CA ha
 have hlt:=h.lt
 have w2':BO ow (p,1,0) s' x.w us:=w2.step st (hm' 1 0 (by decide))
 refine⟨{ box:=h.box.step st h.tag h.lt (hm' 0 0 (by decide)),tag:=h.tag,lt:=by omega,w:=?_,learned:=h.learned.step st (hm' 3 0 (by decide)),value:=h.value.step st (hm' 4 0 (by decide)),level:=h.level.step st (hm' 5 0 (by decide)),why:=h.why.step st (hm' 6 0 (by decide)),heat:=h.heat.step st (hm' 7 0 (by decide)),phase:=h.phase.step st (hm' 8 0 (by decide)),trail:=h.trail.step st (hm' 9 0 (by decide)),limits:=h.limits.step st (hm' 10 0 (by decide)),model:=h.model.step st (hm' 11 0 (by decide)),trace:=h.trace.step st (hm' 12 0 (by decide)) (hm' 13 0 (by decide)),cls:=fun c l hc=>(h.cls c l hc).step st (hm' 14 c (by decide)) (hm' 15 c (by decide)) },w2'.get Jr hu1⟩
 refine⟨us,by rw[w1,kv],w2',fun j M hj=>?_⟩
 rw[lH]at hj
 by_cases e:k=j
 ·subst e
  rw[if_pos rfl,if_pos hkl]at hj
  injection hj with hj
  subst hj
  exact⟨u0,hu1,hb⟩
 ·rw[if_neg e]at hj
  obtain⟨w,q1,q2⟩:=w3 j M hj
  exact⟨w,q1,q2.step st (hm 2 j (fun q=>by injection q with _ q;exact e q.symm))⟩
theorem Ac.clause{ow:Ow}{s:AG}{p:Nat}{x:Sf}{v:Sv}(h:Ac ow s p x v){c:Nat}(hc:v.cl c=none){l:A5}(hn:UZ ow s p c l):Ac ow s p x { v with cl:=fun d=>if d=c then some l else v.cl d }:=by
 refine { box:=h.box,tag:=h.tag,lt:=h.lt,w:=h.w,learned:=h.learned,value:=h.value,level:=h.level,why:=h.why,heat:=h.heat,phase:=h.phase,trail:=h.trail,limits:=h.limits,model:=h.model,trace:=h.trace,cls:=fun d l' hd=>?_ }
 have hd:(if d=c then some l else v.cl d)=some l':=hd
 by_cases e:d=c
 ·rw[if_pos e]at hd
  injection hd with hd
  subst hd
  rw[e]
  exact hn
 ·rw[if_neg e]at hd
  exact h.cls d l' hd
theorem NK(a:Int):Fs (iv a) (iv a)=true:=by simp[Fs,Bb,F1]
theorem Do{P:Program}{s s':AG}{t:TypeId}{i k:Nat}(h:s'.heap.get i=s.heap.get i):AC P s' t (.ptr (some (i,k)))=AC P s t (.ptr (some (i,k))):=by
 have hr:rowAt s' i=rowAt s i:=by unfold rowAt;rw[h]
 simp only[AC,loadN,load1,hr]
def CO(val:List Int):List Int→Nat→Option Nat
 | [],_=>none
 | x::l,k=>if 0≤isV val x then some k else CO val l (k+1)
def Ah(ls:List Int)(i j:Nat):List Int:=(ls.set i (ls.getD j 0)).set j (ls.getD i 0)
theorem C3(ls:List Int)(i j:Nat):(Ah ls i j).length=ls.length:=by unfold Ah;rw[kv,kv]
def AP(cl:Nat→Option A5)(c:Nat)(l:A5):Nat→Option A5:=fun d=>if d=c then some l else cl d
theorem Iq(cl:Nat→Option A5)(c:Nat)(l l':A5):AP (AP cl c l) c l'=AP cl c l':=by
 funext d
 unfold AP
 by_cases h:d=c
 ·rw[if_pos h,if_pos h]
 ·rw[if_neg h,if_neg h,if_neg h]
theorem Aj(cl:Nat→Option A5)(c:Nat)(l:A5):AP cl c l c=some l:=if_pos rfl
def HK(x x':Sf)(v v':Sv)(s s':AG):Prop:=x'.w=x.w∧∀j,j<v.watches.length→v'.watches[j]? = v.watches[j]?→AC Try.prog s' 89 (Az x.w j)=AC Try.prog s 89 (Az x.w j)
theorem HK.refl(x:Sf)(v v':Sv)(s:AG):HK x x v v' s s:=⟨rfl,fun _ _ _=>rfl⟩
theorem HK.ofB{ow ow':Ow}{s s':AG}{p:Nat}{x x':Sf}{v v':Sv}(h:Ac ow s p x v)(k:AH (BI p) ow s ow' s')(hx:x'.w=x.w):HK x x' v v' s s':=by
 refine⟨hx,fun j hj _=>?_⟩
 obtain⟨us,w1,w2,_⟩:=h.w
 have hju:us[j]? = some us[j]:=ky (by omega)
 rw[w2.get Jr hju]
 exact(w2.step k (fun q=>q.2.1 rfl)).get Jr hju
def Ch(v:Sv)(c:Nat)(ls:List Int)(b:Bool×Bool)(i:Nat):Sv:={ v with cl:=AP v.cl c (Ah ls 1 i,b),watches:=Ci v.watches (place (ls.getD i 0)) c }
def A1(n:Nat)(ls:List Int):Prop:=(∀l∈ls,VL n l)∧ls.length<100000000
theorem A1.get{n:Nat}{ls:List Int}(h:A1 n ls){k:Nat}(hk:k<ls.length):VL n (ls.getD k 0):=h.1 _ (kq (AQ hk))
theorem Ot{ls:List Int}{i j:Nat}{x:Int}(hi:i<ls.length)(hj:j<ls.length)(h:x∈Ah ls i j):x∈ls:=by
  unfold Ah at h
  rcases mO h with h | h
  · rcases mO                        h with h | h
    · exact h
    · rw[h];exact kq (AQ hj)
  · rw[h];exact kq (AQ hi)
theorem A1.swap{n:Nat}{ls:List Int}(h:A1 n ls){i j:Nat}(hi:i<ls.length)(hj:j<ls.length):A1 n (Ah ls i j):=
 ⟨fun x hx=>h.1 x (Ot hi hj hx),by rw[C3];exact h.2⟩
theorem T0        {E : BJ}  (hE : Good E) {ow : Ow} {s : AG}  {p : Nat} {x : Sf} {v : Sv} (h : Ac  ow s p x v) {n : Nat} (hf : Lm  n v) (hs : KH    v.watches) {c : Nat} {ls : List Int} {b : Bool × Bool} (hc : v.cl c = some (ls, b)) (hl : A1    n ls) (h2 : 2 ≤ ls.length) {Q : Ar   → Prop} :
    ∀ (l : List Int) (k : Nat) (x2 x4 x5 : AV), ls.drop k = l → 2 ≤ k → k ≤ ls.length →
      (∀y2 y3 y4 y5,CO v.value l k=none→Q ⟨.exit 0,[AJ p,AJ c,y2,y3,y4,y5],[],s⟩) →
      (∀i s' ow' x' y3 y4 y5,CO v.value l k=some i→i<ls.length→2≤i→Ac ow' s' p x' (Ch v c ls b i)→AH (BN p) ow s ow' s'→HK x x' v (Ch v c ls b i) s s'→Q ⟨.ret,[AJ p,AJ c,.bool true,y3,y4,y5],[],s'⟩) →
      WC E none (.loop KO) Q [AJ p,AJ c,x2,iv (k:Int),x4,x5] [] s:=by
  obtain⟨hz,h3,ht,hlim⟩:=hf
  have hn:=hz.small
  obtain⟨u,u1,u2,u3,u4,u5⟩:=h.lits hc
  have u4:BO ow (p,15,c) s u (A3 ls):=u4
  have ul:∀s,A6 Try.prog s 23 u=some (iv (ls.length:Int)):=fun s=>by
    have:=u4.len Try.underlying23 s
    rw[kn]at this
    exact this
  intro l
  induction l with
  | nil =>
    intro k x2 x4 x5 hd hk2 hk hno hyes
    have:=Fd hd hk
    subst this
    refine WC.loop' ?_
    simp only[KO,Po,AJ,AF,Cy,u1,ul,lT,decide_false,Qa,Qb,Qc,Qd,Qe,Qf,Qg,Qh,Qi,Qj,Qk,Ql,Qm,Qn,true_and,and_true,Qo,Qp,Qq,Qr,Qs,Qt,Qu,Qv,Qw,Qx,Qy,Qz,Ra,Rb,Rc,Rd,Re,Rf,Rg,Rh,Ri,Rj,Rk,Rl,Rm,Ya,Yb,Yc,Rn,Ro,Rp,Yd,Ye,Rq,Rs,Rt,Ru,Rv,Rw,Rx]
    exact hno _ _ _ _ rfl
  | cons y l ih =>
    intro k x2 x4 x5 hd hk2 hk hno hyes
    obtain⟨hlt,hy,hd'⟩:=DP hd
    have hll:=hl.2
    obtain⟨hy0,hy1⟩:=hl.1 y (kq hy)
    have hkk:decide ((k:Int)<(ls.length:Int))=true:=decide_eq_true (by omega)
    have e3:=Ao Try.prog 3 (k:Int) 1 ⟨by omega,by omega⟩
    have hcast:((k:Int)+1)=((k+1:Nat):Int):=by omega
    have i1:=u4.addr Try.underlying23 Be (k:=k) (by rw[kn];exact hlt)
    have i2:=u4.get (t:=3) Df (k:=k) (Av hy)
    have j1:=u4.addr Try.underlying23 Be (k:=1) (by rw[kn];omega)
    have hg1:=AQ (d:=(0:Int)) (show 1<ls.length by omega)
    have j2:=u4.get (t:=3) Df (k:=1) (Av hg1)
    have j1':AD Try.prog 23 u (iv 1)=some (Az u 1):=j1
    refine WC.loop' ?_
    generalize hW:WC E none (Aa.loop KO) Q=W
    simp only[KO,Po,VF,AJ,AF,Cy,u1,ul,hkk,i1,i2,Qa,Qb,Qc,Qd,Qe,Qf,Qg,Qh,Qi,Qj,Qk,Ql,Qm,Qn,true_and,and_true,Qo,Qp,Qq,Qr,Qs,Qt,Qu,Qv,Qw,Qx,Qy,Qz,Ra,Rb,Rc,Rd,Re,Rf,Rg,Rh,Ri,Rj,Rk,Rl,Rm,Ya,Yb,Yc,Rn,Ro,Rp,Yd,Ye,Rq,Rs,Rt,Ru,Rv,Rw,Rx]
    refine(JZ hE h h3 (l:=y) (by rw[hz.value];omega) (by rw[hz.value];omega)).mono ?_
    rintro _ _ ⟨rfl,rfl⟩
    have hgy:ls.getD k 0=y:=by rw[lK,hy];rfl
    by_cases hge:0≤isV v.value y
    · have hfm:CO v.value (y::l) k=some k:=by unfold CO;rw[if_pos hge]
      obtain⟨s1,a1,a2,a3,a4,a5⟩:=h.put_lit hc (k:=1) (by omega) y u1
      have hc1:(AP v.cl c (ls.set 1 y,b)) c=some (ls.set 1 y,b):=Aj _ _ _
      have a2':Ac ow s1 p x { v with cl:=AP v.cl c (ls.set 1 y,b) }:=a2
      obtain⟨s2,b1,b2,b3,b4,b5⟩:=a2'.put_lit hc1 (k:=k) (by rw[kv];exact hlt) (ls.getD 1 0) a5
      have hsw:(ls.set 1 y).set k (ls.getD 1 0)=Ah ls 1 k:=by unfold Ah;rw[hgy]
      rw[hsw]at b2
      have b2':Ac ow s2 p x { v with cl:=AP v.cl c (Ah ls 1 k,b) }:=by
        have e:=Iq v.cl c (ls.set 1 y,b) (Ah ls 1 k,b)
        have:Ac ow s2 p x { v with cl:=AP (AP v.cl c (ls.set 1 y,b)) c (Ah ls 1 k,b) }:=b2
        rw[e]at this
        exact this
      have hst:AH (fun _=>False) ow s2 (ext ow s2.next (0,0,0)) (newObj s2 (AO 92 1 [AJ c])):=AH.new _ ow s2 _ _
      have d2:=b2'.keep hst (fun _ q=>q.elim)
      have hpl:=VL.place ⟨hy0,hy1⟩
      have hwk:v.watches[place y]? = some (v.watches.getD (place y) []):=AQ (by rw[hz.w];exact hpl)
      obtain⟨w1,w1',s3,s4,ow',f1,f2,f3,ldw3,f4,f5,f6,f7⟩:=d2.watch_in (k:=place y) hwk (by have:=hs _ (kq hwk);omega) c (q:=s2.next) (ty:=92) (sz':=1) (by rw[AY,if_pos rfl])
      have hc2:(AP v.cl c (Ah ls 1 k,b)) c=some (Ah ls 1 k,b):=Aj _ _ _
      obtain⟨u',q1,q2,q3,q4,q5⟩:=b2'.lits hc2
      have huu:u'=u:=by rw[b5]at q1;injection q1 with q1;exact q1.symm
      subst huu
      have hs1:(Ah ls 1 k)[1]? = some y:=by
        unfold Ah
        rw[lH,if_neg (by omega),lH,if_pos rfl,if_pos (by omega),hgy]
      have r2:=q4.get (t:=3) Df (k:=1) (Av hs1)
      have hcx:c<s2.next:=q5
      have e5:AC Try.prog (newObj s2 (AO 92 1 [AJ c])) 23 (.ptr (some (c,0)))=some u':=(Do (s:=s2) (by rw[AY,if_neg (by omega)])).trans b5
      have q4':=q4.step hst (fun q=>q.elim)
      have r2':=q4'.get (t:=3) Df (k:=1) (Av hs1)
      have bl:=Cj (P:=Try.prog) (t:=89) (v:=AJ c) Try.underlying89 El SQ rfl rfl
      have hms:∀ (m:Nat) (i:Nat),Made.val i (.slice m)=.slice (some (i,0)) m (some m):=fun _ _=>rfl
      have hself:Fs x.w x.w=true:=by obtain⟨us,_,w2,_⟩:=b2'.w;exact w2.self
      have hselfu:Fs u' u'=true:=q4.self
      have g1:=decide_eq_true hge
      have ldw:=b2'.ld_w
      have ldw':=d2.ld_w
      simp only[AJ]at bl f1 f2 f3 f4 e5 r2' ldw'
      simp only[g1,VG,AJ,AF,Cy,It,u1,i1,i2,j1',j2,BU,a1,b1,AX,VH,ldw,b5,r2,bl,hms,Qa,Qb,Qc,Qd,Qe,Qf,Qg,Qh,Qi,Qj,Qk,Ql,Qm,Qn,true_and,and_true,Qo,Qp,Qq,Qr,Qs,Qt,Qu,Qv,Qw,Qx,Qy,Qz,Ra,Rb,Rc,Rd,Re,Rf,Rg,Rh,Ri,Rj,Rk,Rl,Rm,Ya,Yb,Yc,Rn,Ro,Rp,Yd,Ye,Rq,Rs,Rt,Ru,Rv,Rw,Rx]
      refine(Fm hE (l:=y) (by omega)).mono ?_
      rintro _ _ ⟨rfl,rfl⟩
      simp only[BP,Ap,r2',NK,e5,hselfu,ldw',hself,Qa,Qb,Qc,Qd,Qe,Qf,Qg,Qh,Qi,Qj,Qk,Ql,Qm,Qn,true_and,and_true,Qo,Qp,Qq,Qr,Qs,Qt,Qu,Qv,Qw,Qx,Qy,Qz,Ra,Rb,Rc,Rd,Re,Rf,Rg,Rh,Ri,Rj,Rk,Rl,Rm,Ya,Yb,Yc,Rn,Ro,Rp,Yd,Ye,Rq,Rs,Rt,Ru,Rv,Rw,Rx]
      refine(Fm hE (l:=y) (by omega)).mono ?_
      rintro _ _ ⟨rfl,rfl⟩
      simp only[BP,Ap,ldw',hself,f1,f2,f3,ldw3,BU,f4,AX,VI,Qa,Qb,Qc,Qd,Qe,Qf,Qg,Qh,Qi,Qj,Qk,Ql,Qm,Qn,true_and,and_true,Qo,Qp,Qq,Qr,Qs,Qt,Qu,Qv,Qw,Qx,Qy,Qz,Ra,Rb,Rc,Rd,Re,Rf,Rg,Rh,Ri,Rj,Rk,Rl,Rm,Ya,Yb,Yc,Rn,Ro,Rp,Yd,Ye,Rq,Rs,Rt,Ru,Rv,Rw,Rx]
      refine hyes k s4 ow' x _ _ _ hfm hlt hk2 ?_ ((a3.trans b3).b.trans ((hst.mono fun _ q=>q.elim).trans f6.w)) ⟨rfl,fun j hj he=>?_⟩
      rotate_left
      · have hjk:j≠place y:=fun e=>by
          subst e
          have e1:(Ch v c ls b k).watches[place y]? = some (v.watches.getD (place y) []++[c]):=by
            show(v.watches.set (place (ls.getD k 0)) _)[place y]? = _
            rw[hgy,lH,if_pos rfl,if_pos hj]
          rw[e1,hwk]at he
          injection he with he
          have:=congrArg List.length he
          simp at this
        rw[f7 j hj hjk]
        obtain⟨us,w1,w2,_⟩:=h.w
        have hju:us[j]? = some us[j]:=ky (by omega)
        rw[w2.get Jr hju]
        exact((w2.step (a3.trans b3) (fun q=>q.2.1 rfl)).step hst (fun q=>q.elim)).get Jr hju
      have:Ch v c ls b k={ { v with cl:=AP v.cl c (Ah ls 1 k,b) }with watches:=v.watches.set (place y) (v.watches.getD (place y) []++[c]) }:=by unfold Ch Ci;rw[hgy]
      rw[this]
      exact f5
    · have hfm:CO v.value (y::l) k=CO v.value l (k+1):=by conv=>lhs;unfold CO;rw[if_neg hge]
      rw[hfm]at hno hyes
      have g1:=decide_eq_false hge
      simp only[g1,VJ,e3,hcast,Qa,Qb,Qc,Qd,Qe,Qf,Qg,Qh,Qi,Qj,Qk,Ql,Qm,Qn,true_and,and_true,Qo,Qp,Qq,Qr,Qs,Qt,Qu,Qv,Qw,Qx,Qy,Qz,Ra,Rb,Rc,Rd,Re,Rf,Rg,Rh,Ri,Rj,Rk,Rl,Rm,Ya,Yb,Yc,Rn,Ro,Rp,Yd,Ye,Rq,Rs,Rt,Ru,Rv,Rw,Rx]
      rw[← hW]
      exact ih (k+1) _ _ _ hd' (by omega) hlt hno hyes
theorem aG{E:BJ}(hE:Good E){ow:Ow}{s:AG}{p:Nat}{x:Sf}{v:Sv}(h:Ac ow s p x v){n:Nat}(hf:Lm n v)(hs:KH v.watches){c:Nat}{ls:List Int}{b:Bool×Bool}(hc:v.cl c=some (ls,b))(hl:A1 n ls)(h2:2≤ls.length):
  WF E 110 [AJ p,AJ c] (fun r s'=>(CO v.value (ls.drop 2) 2=none∧r=.bool false∧s'=s)∨∃i ow' x',CO v.value (ls.drop 2) 2=some i∧i<ls.length∧2≤i∧r=.bool true∧Ac ow' s' p x' (Ch v c ls b i)∧AH (BN p) ow s ow' s'∧HK x x' v (Ch v c ls b i) s s') s:=by
 refine hE.go Zs (by decide) rfl ?_
 simp only[iW,VD,VE,Qa,Qb,Qc,Qd,Qe,Qf,Qg,Qh,Qi,Qj,Qk,Ql,Qm,Qn,true_and,and_true,Qo,Qp,Qq,Qr,Qs,Qt,Qu,Qv,Qw,Qx,Qy,Qz,Ra,Rb,Rc,Rd,Re,Rf,Rg,Rh,Ri,Rj,Rk,Rl,Rm,Ya,Yb,Yc,Rn,Ro,Rp,Yd,Ye,Rq,Rs,Rt,Ru,Rv,Rw,Rx]
 refine T0 hE h hf hs hc hl h2 (ls.drop 2) 2 _ _ _ rfl (kp _) h2 ?_ ?_
 ·intro y2 y3 y4 y5 hno
  simp only[if_true,VK,Qa,Qb,Qc,Qd,Qe,Qf,Qg,Qh,Qi,Qj,Qk,Ql,Qm,Qn,true_and,and_true,Qo,Qp,Qq,Qr,Qs,Qt,Qu,Qv,Qw,Qx,Qy,Qz,Ra,Rb,Rc,Rd,Re,Rf,Rg,Rh,Ri,Rj,Rk,Rl,Rm,Ya,Yb,Yc,Rn,Ro,Rp,Yd,Ye,Rq,Rs,Rt,Ru,Rv,Rw,Rx]
  exact .inl hno
 ·intro i s' ow' x' y3 y4 y5 h1 h3 h4 h5 h6 h7
  simp only[Qa,Qb,Qc,Qd,Qe,Qf,Qg,Qh,Qi,Qj,Qk,Ql,Qm,Qn,true_and,and_true,Qo,Qp,Qq,Qr,Qs,Qt,Qu,Qv,Qw,Qx,Qy,Qz,Ra,Rb,Rc,Rd,Re,Rf,Rg,Rh,Ri,Rj,Rk,Rl,Rm,Ya,Yb,Yc,Rn,Ro,Rp,Yd,Ye,Rq,Rs,Rt,Ru,Rv,Rw,Rx]
  exact .inr ⟨i,ow',x',h1,h3,h4,h5,h6,h7⟩
def AT(v:Sv)(c:Nat)(l:Int)(ls:List Int)(b:Bool×Bool):Bool×Bool×Sv:=
 if b.2=true then (false,false,v)else
 let ls1:=if ls.getD 0 0=l then Ah ls 0 1 else ls
 let v1:Sv:={ v with cl:=AP v.cl c (ls1,b) }
 if 0<isV v.value (ls1.getD 0 0)then (true,false,v1)else
 match CO v.value (ls1.drop 2) 2 with
 | some i=>(false,false,Ch v1 c ls1 b i)
 | none=>if isV v.value (ls1.getD 0 0)<0 then (true,true,v1)else (true,false,BF v1 (ls1.getD 0 0) (some c))
theorem OP{cl:Nat→Option A5}{c:Nat}{l:A5}(h:cl c=some l):AP cl c l=cl:=by
 funext d
 unfold AP
 by_cases e:d=c
 ·rw[if_pos e,e,h]
 ·rw[if_neg e]
theorem Le         {E : BJ}  (hE : Good E) {ow : Ow} {s : AG}  {p : Nat} {x : Sf} {v : Sv} (h : Ac  ow s p x v) {n : Nat} (hf : Lm  n v) (hs : KH    v.watches) {c : Nat} {ls : List Int} {b : Bool × Bool} (hc : v.cl c = some (ls, b)) (hl : A1    n ls) (h2 : 2 ≤ ls.length) (l5 l6 x3 x4 x5 : AV) {Q : AV → AG  → Prop}
    (hq:∀a f s' ow' x' v',(if 0<isV v.value (ls.getD 0 0)then (true,false,v)else
      match CO v.value (ls.drop 2) 2 with
      | some i=>(false,false,Ch v c ls b i)
      | none=>if isV v.value (ls.getD 0 0)<0 then (true,true,v)else (true,false,BF v (ls.getD 0 0) (some c)))=(a,f,v')→Ac ow' s' p x' v'→AH (BN p) ow s ow' s'→HK x x' v v' s s'→Q (.tuple [.bool a,.bool f]) s'):
    Qa E none (.seq (.block 0 (.seq (.ops XB) (.cond (.var 7) (.seq (.ops XC) .ret) (.seq (.ops XD) (.cond (.var 8) (.seq (.ops XE) .ret) (.seq (.ops XF) (.cond (.var 9) (.seq (.ops Q9) .ret) .skip))))))) (.seq (.ops RA) (.seq (.ops RC) .ret)))
      (Ends Try.prog [((.var 3),none),((.var 4),none)] Q) [AJ p,AJ c,l5,.bool false,.bool false,l6,x3,x4,x5,BE] [] s:=by
  have hz:=hf.siz
  have hn:=hz.small
  have hV0:=hl.get (k:=0) (by omega)
  obtain⟨u,u1,u2,u3,u4,u5⟩:=h.lits hc
  have u4:BO ow (p,15,c) s u (A3 ls):=u4
  have hg0:=AQ (d:=(0:Int)) (show 0<ls.length by omega)
  have i1:=u4.addr Try.underlying23 Be (k:=0) (by rw[kn];omega)
  have i1':AD Try.prog 23 u (iv 0)=some (Az u 0):=i1
  have i2:=u4.get (t:=3) Df (k:=0) (Av hg0)
  generalize hl0:ls.getD 0 0=l0 at hV0 i2 hq
  have hlen:l0.natAbs<v.value.length:=by rw[hz.value];have:=hV0.2;omega
  have hlen2:v.value.length<1000000000:=by rw[hz.value];omega
  simp only[XB,AJ,AF,Cy,u1,i1',i2,Qa,Qb,Qc,Qd,Qe,Qf,Qg,Qh,Qi,Qj,Qk,Ql,Qm,Qn,true_and,and_true,Qo,Qp,Qq,Qr,Qs,Qt,Qu,Qv,Qw,Qx,Qy,Qz,Ra,Rb,Rc,Rd,Re,Rf,Rg,Rh,Ri,Rj,Rk,Rl,Rm,Ya,Yb,Yc,Rn,Ro,Rp,Yd,Ye,Rq,Rs,Rt,Ru,Rv,Rw,Rx]
  refine(JZ hE h hf.val hlen hlen2).mono ?_
  rintro _ _ ⟨rfl,rfl⟩
  by_cases hp:0<isV v.value l0
  · rw[if_pos hp]at hq
    simp only[decide_eq_true hp,XC,Qa,Qb,Qc,Qd,Qe,Qf,Qg,Qh,Qi,Qj,Qk,Ql,Qm,Qn,true_and,and_true,Qo,Qp,Qq,Qr,Qs,Qt,Qu,Qv,Qw,Qx,Qy,Qz,Ra,Rb,Rc,Rd,Re,Rf,Rg,Rh,Ri,Rj,Rk,Rl,Rm,Ya,Yb,Yc,Rn,Ro,Rp,Yd,Ye,Rq,Rs,Rt,Ru,Rv,Rw,Rx]
    exact hq _ _ _ _ _ _ rfl h (AH.refl _ _ _) (HK.refl _ _ _ _)
  · rw[if_neg hp]at hq
    simp only[decide_eq_false hp,XD,Qa,Qb,Qc,Qd,Qe,Qf,Qg,Qh,Qi,Qj,Qk,Ql,Qm,Qn,true_and,and_true,Qo,Qp,Qq,Qr,Qs,Qt,Qu,Qv,Qw,Qx,Qy,Qz,Ra,Rb,Rc,Rd,Re,Rf,Rg,Rh,Ri,Rj,Rk,Rl,Rm,Ya,Yb,Yc,Rn,Ro,Rp,Yd,Ye,Rq,Rs,Rt,Ru,Rv,Rw,Rx]
    refine(aG hE h hf hs hc hl h2).mono ?_
    rintro r s1 (⟨g1,rfl,rfl⟩ | ⟨i,ow',x',g1,_,_,rfl,g2,g3,g4⟩)
    · rw[g1]at hq
      simp only[XF,AJ,AF,Cy,u1,i1',i2,Qa,Qb,Qc,Qd,Qe,Qf,Qg,Qh,Qi,Qj,Qk,Ql,Qm,Qn,true_and,and_true,Qo,Qp,Qq,Qr,Qs,Qt,Qu,Qv,Qw,Qx,Qy,Qz,Ra,Rb,Rc,Rd,Re,Rf,Rg,Rh,Ri,Rj,Rk,Rl,Rm,Ya,Yb,Yc,Rn,Ro,Rp,Yd,Ye,Rq,Rs,Rt,Ru,Rv,Rw,Rx]
      refine(JZ hE h hf.val hlen hlen2).mono ?_
      rintro _ _ ⟨rfl,rfl⟩
      by_cases hm:isV v.value l0<0
      · simp only [if_pos hm] at hq
        simp only[decide_eq_true hm,Q9,Qa,Qb,Qc,Qd,Qe,Qf,Qg,Qh,Qi,Qj,Qk,Ql,Qm,Qn,true_and,and_true,Qo,Qp,Qq,Qr,Qs,Qt,Qu,Qv,Qw,Qx,Qy,Qz,Ra,Rb,Rc,Rd,Re,Rf,Rg,Rh,Ri,Rj,Rk,Rl,Rm,Ya,Yb,Yc,Rn,Ro,Rp,Yd,Ye,Rq,Rs,Rt,Ru,Rv,Rw,Rx]
        exact hq _ _ _ _ _ _ rfl h (AH.refl _ _ _) (HK.refl _ _ _ _)
      · simp only [if_neg hm] at hq
        simp only[decide_eq_false hm,RA,AJ,AF,Cy,u1,i1',i2,Qa,Qb,Qc,Qd,Qe,Qf,Qg,Qh,Qi,Qj,Qk,Ql,Qm,Qn,true_and,and_true,Qo,Qp,Qq,Qr,Qs,Qt,Qu,Qv,Qw,Qx,Qy,Qz,Ra,Rb,Rc,Rd,Re,Rf,Rg,Rh,Ri,Rj,Rk,Rl,Rm,Ya,Yb,Yc,Rn,Ro,Rp,Yd,Ye,Rq,Rs,Rt,Ru,Rv,Rw,Rx]
        refine(FZ hE h hz hV0 (some c)).mono ?_
        rintro _ s2 ⟨ow',x',k1,k2,k3⟩
        simp only[RC,Qa,Qb,Qc,Qd,Qe,Qf,Qg,Qh,Qi,Qj,Qk,Ql,Qm,Qn,true_and,and_true,Qo,Qp,Qq,Qr,Qs,Qt,Qu,Qv,Qw,Qx,Qy,Qz,Ra,Rb,Rc,Rd,Re,Rf,Rg,Rh,Ri,Rj,Rk,Rl,Rm,Ya,Yb,Yc,Rn,Ro,Rp,Yd,Ye,Rq,Rs,Rt,Ru,Rv,Rw,Rx]
        exact hq _ _ _ _ _ _ rfl k1 k2.b (HK.ofB h k2 k3)
    · rw[g1]at hq
      simp only[XE,Qa,Qb,Qc,Qd,Qe,Qf,Qg,Qh,Qi,Qj,Qk,Ql,Qm,Qn,true_and,and_true,Qo,Qp,Qq,Qr,Qs,Qt,Qu,Qv,Qw,Qx,Qy,Qz,Ra,Rb,Rc,Rd,Re,Rf,Rg,Rh,Ri,Rj,Rk,Rl,Rm,Ya,Yb,Yc,Rn,Ro,Rp,Yd,Ye,Rq,Rs,Rt,Ru,Rv,Rw,Rx]
      exact hq _ _ _ _ _ _ rfl g2 g3 g4
theorem Yu       {E : BJ}  (hE : Good E) {ow : Ow} {s : AG}  {p : Nat} {x : Sf} {v : Sv} (h : Ac  ow s p x v) {n : Nat} (hf : Lm  n v) (hs : KH    v.watches) {c : Nat} {ls : List Int} {b : Bool × Bool} (hc : v.cl c = some (ls, b)) (hl : A1    n ls) (h2 : 2 ≤ ls.length) (l : Int) :
    WF E 92 [AJ p,AJ c,iv l] (fun r s'=>∃a f v' ow' x',AT v c l ls b=(a,f,v')∧r=.tuple [.bool a,.bool f]∧Ac ow' s' p x' v'∧AH (BN p) ow s ow' s'∧HK x x' v v' s s') s:=by
  obtain⟨u,u1,u2,u3,u4,u5⟩:=h.lits hc
  have u4:BO ow (p,15,c) s u (A3 ls):=u4
  have u3:AC Try.prog s 4 (.ptr (some (c,2)))=some (.bool b.2):=u3
  have hg0:=AQ (d:=(0:Int)) (show 0<ls.length by omega)
  have hg1:=AQ (d:=(0:Int)) (show 1<ls.length by omega)
  have i1:AD Try.prog 23 u (iv 0)=some (Az u 0):=u4.addr Try.underlying23 Be (k:=0) (by rw[kn];omega)
  have i2:=u4.get (t:=3) Df (k:=0) (Av hg0)
  have j1:AD Try.prog 23 u (iv 1)=some (Az u 1):=u4.addr Try.underlying23 Be (k:=1) (by rw[kn];omega)
  have j2:=u4.get (t:=3) Df (k:=1) (Av hg1)
  refine hE.go gO (by decide) rfl ?_
  cases hb:b.2 with
  | true =>
    rw[hb]at u3
    have ht:AT v c l ls b=(false,false,v):=by unfold AT;rw[if_pos hb]
    simp only[jY,Sn,So,da,AJ,AF,F2,u3,Qa,Qb,Qc,Qd,Qe,Qf,Qg,Qh,Qi,Qj,Qk,Ql,Qm,Qn,true_and,and_true,Qo,Qp,Qq,Qr,Qs,Qt,Qu,Qv,Qw,Qx,Qy,Qz,Ra,Rb,Rc,Rd,Re,Rf,Rg,Rh,Ri,Rj,Rk,Rl,Rm,Ya,Yb,Yc,Rn,Ro,Rp,Yd,Ye,Rq,Rs,Rt,Ru,Rv,Rw,Rx]
    exact⟨false,false,v,ow,x,ht,rfl,h,AH.refl _ _ _,HK.refl _ _ _ _⟩
  | false =>
    rw[hb]at u3
    by_cases he:ls.getD 0 0=l
    · obtain⟨s1,a1,a2,a3,a4,a5⟩:=h.put_lit hc (k:=0) (by omega) (ls.getD 1 0) u1
      have hc1:(AP v.cl c (ls.set 0 (ls.getD 1 0),b)) c=some (ls.set 0 (ls.getD 1 0),b):=Aj _ _ _
      have a2':Ac ow s1 p x { v with cl:=AP v.cl c (ls.set 0 (ls.getD 1 0),b) }:=a2
      obtain⟨s2,b1,b2,b3,b4,b5⟩:=a2'.put_lit hc1 (k:=1) (by rw[kv];omega) (ls.getD 0 0) a5
      have b2':Ac ow s2 p x { v with cl:=AP v.cl c (Ah ls 0 1,b) }:=by
        have e:=Iq v.cl c (ls.set 0 (ls.getD 1 0),b) (Ah ls 0 1,b)
        have:Ac ow s2 p x { v with cl:=AP (AP v.cl c (ls.set 0 (ls.getD 1 0),b)) c (Ah ls 0 1,b) }:=b2
        rw[e]at this
        exact this
      have hf2:Lm n { v with cl:=AP v.cl c (Ah ls 0 1,b) }:=⟨⟨hf.siz.small,hf.siz.w,hf.siz.value,hf.siz.level,hf.siz.why,hf.siz.heat,hf.siz.phase,hf.siz.trail,hf.siz.limits⟩,hf.val,hf.lits,hf.lims⟩
      have hd:=decide_eq_true he
      have fin:=fun(l5:AV)=>Le hE b2' hf2 hs (c:=c) (ls:=Ah ls 0 1) (b:=b) (Aj _ _ _) (hl.swap (by omega) (by omega)) (by rw[C3];exact h2) l5 (.bool false) (.bool true) BE BE (Q:=fun r s'=>∃a f v' ow' x',AT v c l ls b=(a,f,v')∧r=.tuple [.bool a,.bool f]∧Ac ow' s' p x' v'∧AH (BN p) ow s ow' s'∧HK x x' v v' s s')
        (fun a f s' ow' x' v' e k1 k2 k3=>⟨a,f,v',ow',x',by unfold AT;rw[if_neg (by rw[hb];decide)];simp only[if_pos he];exact e,rfl,k1,(a3.trans b3).b.trans k2,k3.1,fun j hj hw=>(k3.2 j hj hw).trans ((HK.ofB (x':=x) (v':=v) h (a3.trans b3) rfl).2 j hj rfl)⟩)
      have fin:=fin (iv l)
      simp only[AJ,Qa,Qb,Qc,Qd,Qe,Qf,Qg,Qh,Qi,Qj,Qk,Ql,Qm,Qn,true_and,and_true,Qo,Qp,Qq,Qr,Qs,Qt,Qu,Qv,Qw,Qx,Qy,Qz,Ra,Rb,Rc,Rd,Re,Rf,Rg,Rh,Ri,Rj,Rk,Rl,Rm,Ya,Yb,Yc,Rn,Ro,Rp,Yd,Ye,Rq,Rs,Rt,Ru,Rv,Rw,Rx]at fin
      simp only[jY,Sn,So,XA,db,AJ,AF,F2,Cy,u3,u1,i1,i2,j1,j2,hd,BU,a1,b1,AX,Qa,Qb,Qc,Qd,Qe,Qf,Qg,Qh,Qi,Qj,Qk,Ql,Qm,Qn,true_and,and_true,Qo,Qp,Qq,Qr,Qs,Qt,Qu,Qv,Qw,Qx,Qy,Qz,Ra,Rb,Rc,Rd,Re,Rf,Rg,Rh,Ri,Rj,Rk,Rl,Rm,Ya,Yb,Yc,Rn,Ro,Rp,Yd,Ye,Rq,Rs,Rt,Ru,Rv,Rw,Rx]
      exact fin
    · have hd := decide_eq_false he
      have fin:=Le hE h hf hs hc hl h2 (iv l) (.bool false) (.bool false) BE BE (Q:=fun r s'=>∃a f v' ow' x',AT v c l ls b=(a,f,v')∧r=.tuple [.bool a,.bool f]∧Ac ow' s' p x' v'∧AH (BN p) ow s ow' s'∧HK x x' v v' s s')
        (fun a f s' ow' x' v' e k1 k2 k3=>⟨a,f,v',ow',x',by
          unfold AT
          rw[if_neg (by rw[hb];decide)]
          simp only[if_neg he]
          rw[OP hc]
          exact e,rfl,k1,k2,k3⟩)
      simp only[AJ,Qa,Qb,Qc,Qd,Qe,Qf,Qg,Qh,Qi,Qj,Qk,Ql,Qm,Qn,true_and,and_true,Qo,Qp,Qq,Qr,Qs,Qt,Qu,Qv,Qw,Qx,Qy,Qz,Ra,Rb,Rc,Rd,Re,Rf,Rg,Rh,Ri,Rj,Rk,Rl,Rm,Ya,Yb,Yc,Rn,Ro,Rp,Yd,Ye,Rq,Rs,Rt,Ru,Rv,Rw,Rx]at fin
      simp only[jY,Sn,So,XA,AJ,AF,F2,Cy,u3,u1,i1,i2,hd,Qa,Qb,Qc,Qd,Qe,Qf,Qg,Qh,Qi,Qj,Qk,Ql,Qm,Qn,true_and,and_true,Qo,Qp,Qq,Qr,Qs,Qt,Qu,Qv,Qw,Qx,Qy,Qz,Ra,Rb,Rc,Rd,Re,Rf,Rg,Rh,Ri,Rj,Rk,Rl,Rm,Ya,Yb,Yc,Rn,Ro,Rp,Yd,Ye,Rq,Rs,Rt,Ru,Rv,Rw,Rx]
      exact fin
structure Aw(n:Nat)(v:Sv):Prop where
 fit:Lm n v
 nodup:(v.trail.map Int.natAbs).Nodup
 holds:∀l∈v.trail,v.value.getD l.natAbs 0=Pc l
 open_:∀k,(∀l∈v.trail,l.natAbs≠k)→v.value.getD k 0=0
 wc:∀L∈v.watches,∀c∈L,∃ls b,v.cl c=some (ls,b)∧A1 n ls∧2≤ls.length
def DM(B:Nat)(ws:List (List Nat)):Prop:=∀L∈ws,L.length≤B
theorem DM.mono{B C:Nat}{ws:List (List Nat)}(h:DM B ws)(hB:B≤C):DM C ws:=fun L hL=>lF (h L hL) hB
theorem DM.set{B:Nat}{ws:List (List Nat)}(h:DM B ws){k:Nat}{L:List Nat}(hL:L.length≤B):DM B (ws.set k L):=fun M hM=>by
 rcases mO hM with h' | h'
 ·exact h M h'
 ·rw[h'];exact hL
theorem DM.put{B:Nat}{ws:List (List Nat)}(h:DM B ws)(k c:Nat):DM (B+1) (Ci ws k c):=by
 refine DM.set (h.mono (by omega)) ?_
 have:(ws.getD k []).length≤B:=by
  rw[lK]
  cases hk:ws[k]? with
  | none=>simp
  | some L=>exact h L (kq hk)
 rw[kr,List.length_singleton]
 omega
theorem Fg{α:Type}{l:List α}{k j:Nat}{a d:α}(hk:k<l.length):(l.set k a).getD j d=if j=k then a else l.getD j d:=by
 rw[lK,lK,lH]
 by_cases e:k=j
 ·subst e;rw[if_pos rfl,if_pos hk,if_pos rfl];rfl
 ·rw[if_neg e,if_neg (fun q=>e q.symm)]
theorem aE{ws:List (List Nat)}{k c:Nat}{L:List Nat}(h:L∈Ci ws k c){d:Nat}(hd:d∈L):d=c∨∃M∈ws,d∈M:=by
  unfold Ci at h
  rcases mO h with h | h
  · exact .inr ⟨L,h,hd⟩
  · rw [h] at hd
    rcases List.mem_append.1 hd with hd | hd
    · rw[lK]at hd
      cases hk:ws[k]? with
      | none=>rw[hk]at hd;cases hd
      | some M=>rw[hk]at hd;exact .inr ⟨M,kq hk,hd⟩
    · exact .inl (List.mem_singleton.1 hd)
theorem Cc        : ∀ {n : Nat} {l : List Nat}, l.Nodup → (∀ x ∈ l, 1 ≤ x ∧ x ≤ n) → l.length ≤ n
  | 0,l,h,hb=>by
    cases l with
    | nil=>exact kp _
    | cons x l=>have:=hb x kx;omega
  | n + 1, l, h, hb => by
    by_cases hm:n+1∈l
    · have h1:=Cc (n:=n) (h.erase (n+1)) fun x hx=>by
        have hne:x≠n+1:=fun e=>by rw[e]at hx;exact h.not_mem_erase hx
        have:=hb x (List.mem_of_mem_erase hx)
        exact⟨this.1,by omega⟩
      rw[List.length_erase_of_mem hm]at h1
      omega
    · have h1:=Cc (n:=n) h fun x hx=>by
        have hne:x≠n+1:=fun e=>by rw[e]at hx;exact hm hx
        have:=hb x hx
        exact⟨this.1,by omega⟩
      omega
theorem KA(l:Int):Pc l=-1∨Pc l=1:=by unfold Pc;split<;>simp
theorem IG{val:List Int}{l:Int}(h:isV val l=0):val.getD l.natAbs 0=0:=by
 unfold isV at h
 split at h<;>omega
theorem Aw.assign{n:Nat}{v:Sv}(h:Aw n v){l:Int}(hl:VL n l)(ho:v.value.getD l.natAbs 0=0)(w:Option Nat):Aw n (BF v l w):=by
  obtain⟨⟨hz,hv,hli,hlm⟩,h2,h3,h4,h5⟩:=h
  have hkl:l.natAbs<v.value.length:=by rw[hz.value];have:=hl.2;omega
  have hno:∀y∈v.trail,y.natAbs≠l.natAbs:=fun y hy e=>by
    have:=h3 y hy
    rw[e,ho]at this
    rcases KA y with q | q<;>omega
  have hnd:((v.trail++[l]).map Int.natAbs).Nodup:=by
    rw[la,ly]
    refine⟨h2,by simp,fun a ha b hb=>?_⟩
    obtain⟨y,hy,rfl⟩:=List.mem_map.1 ha
    have:b=l.natAbs:=by simpa using hb
    rw[this]
    exact hno y hy
  have hmem:∀y∈v.trail++[l],VL n y:=fun y hy=>by
    rcases List.mem_append.1 hy with hy | hy
    · exact hli y hy
    · rw[List.mem_singleton.1 hy];exact hl
  have hlen:(v.trail++[l]).length≤n:=by
    have:=Cc hnd (n:=n) fun x hx=>by
      obtain⟨y,hy,rfl⟩:=List.mem_map.1 hx
      obtain⟨q1,q2⟩:=hmem y hy
      exact⟨by omega,q2⟩
    simpa using this
  refine⟨⟨⟨hz.small,hz.w,?_,?_,?_,hz.heat,hz.phase,hlen,hz.limits⟩,fun x hx=>?_,hmem,fun x hx=>?_⟩,hnd,fun y hy=>?_,fun k hk=>?_,h5⟩
  · show(v.value.set _ _).length=_;rw[kv];exact hz.value
  · show(v.level.set _ _).length=_;rw[kv];exact hz.level
  · show(v.why.set _ _).length=_;rw[kv];exact hz.why
  · rcases mO                        hx with q | q
    · exact hv x q
    · rw[q];rcases KA l with e | e<;>rw[e]<;>simp
  · have:=hlm x hx
    refine⟨this.1,?_⟩
    show x≤((v.trail++[l]).length:Int)
    rw[kr]
    simp
    omega
  · show(v.value.set _ _).getD _ 0=_
    rw[Fg hkl]
    rcases List.mem_append.1 hy with hy | hy
    · rw[if_neg (hno y hy)];exact h3 y hy
    · rw[List.mem_singleton.1 hy,if_pos rfl]
  · show(v.value.set _ _).getD _ 0=_
    have hkl':k≠l.natAbs:=fun e=>hk l (lU _ kx) e.symm
    rw[Fg hkl,if_neg hkl']
    exact h4 k fun y hy=>hk y (lE _ hy)
theorem Aw.swap{n:Nat}{v:Sv}(h:Aw n v){c:Nat}{ls ls':List Int}{b:Bool×Bool}(hc:v.cl c=some (ls,b))(hl:A1 n ls')(h2:2≤ls'.length):Aw n { v with cl:=AP v.cl c (ls',b) }:=by
 obtain⟨⟨hz,hv,hli,hlm⟩,g2,g3,g4,g5⟩:=h
 refine⟨⟨⟨hz.small,hz.w,hz.value,hz.level,hz.why,hz.heat,hz.phase,hz.trail,hz.limits⟩,hv,hli,hlm⟩,g2,g3,g4,fun L hL d hd=>?_⟩
 by_cases e:d=c
 ·subst e;exact⟨ls',b,Aj _ _ _,hl,h2⟩
 ·obtain⟨ls,b',q1,q2⟩:=g5 L hL d hd
  exact⟨ls,b',by show AP _ _ _ d=_;unfold AP;rw[if_neg e];exact q1,q2⟩
theorem Aw.put{n:Nat}{v:Sv}(h:Aw n v){c:Nat}{ls:List Int}{b:Bool×Bool}(hc:v.cl c=some (ls,b))(hl:A1 n ls)(h2:2≤ls.length)(k:Nat):Aw n { v with watches:=Ci v.watches k c }:=by
 obtain⟨⟨hz,hv,hli,hlm⟩,g2,g3,g4,g5⟩:=h
 refine⟨⟨⟨hz.small,by show(Ci _ _ _).length=_;rw[Cv];exact hz.w,hz.value,hz.level,hz.why,hz.heat,hz.phase,hz.trail,hz.limits⟩,hv,hli,hlm⟩,g2,g3,g4,fun L hL d hd=>?_⟩
 rcases aE hL hd with rfl | ⟨M,hM,hd⟩
 ·exact⟨ls,b,hc,hl,h2⟩
 ·exact g5 M hM d hd
theorem H7{val:List Int}:∀ {l:List Int}{k i:Nat},CO val l k=some i→k≤i∧i<k+l.length
 | [],k,i,h=>by cases h
 | x::l,k,i,h=>by
  unfold CO at h
  split at h
  ·injection h with h;subst h;simp
  ·have:=H7 h;simp;omega
theorem Aw.move{n:Nat}{v:Sv}(h:Aw n v){c:Nat}{ls:List Int}{b:Bool×Bool}(hc:v.cl c=some (ls,b))(hl:A1 n ls)(h2:2≤ls.length){i:Nat}(hi:i<ls.length):Aw n (Ch v c ls b i):=
 (h.swap hc (hl.swap (i:=1) (j:=i) (by omega) hi) (by rw[C3];exact h2)).put (Aj _ _ _) (hl.swap (i:=1) (j:=i) (by omega) hi) (by rw[C3];exact h2) _
structure Jv(v v':Sv)(c:Nat):Prop where
 learned:v'.learned=v.learned
 heat:v'.heat=v.heat
 phase:v'.phase=v.phase
 limits:v'.limits=v.limits
 head:v'.head=v.head
 broken:v'.broken=v.broken
 model:v'.model=v.model
 trace:v'.trace=v.trace
 many:v'.many=v.many
 room:v'.room=v.room
 wlen:v'.watches.length=v.watches.length
 cl:∀d,d≠c→v'.cl d=v.cl d
theorem JP        {n B : Nat} {v : Sv} (h : Aw   n v) (hs : DM     B v.watches) {c : Nat} {ls : List Int} {b : Bool × Bool} (hc : v.cl c = some (ls, b)) (hl : A1    n ls) (h2 : 2 ≤ ls.length) {l : Int} {a f : Bool} {v' : Sv} (ht : AT     v c l ls b = (a, f, v')) :
    Aw n v'∧DM (B+1) v'.watches∧Jv v v' c∧∃ls',v'.cl c=some (ls',b)∧A1 n ls'∧ls'.length=ls.length:=by
  unfold AT at ht
  have same:Jv v v c:=⟨rfl,rfl,rfl,rfl,rfl,rfl,rfl,rfl,rfl,rfl,rfl,fun _ _=>rfl⟩
  by_cases hb:b.2=true
  · rw[if_pos hb]at ht
    injection ht with h1 ht
    injection ht with h3 ht
    subst ht
    exact⟨h,hs.mono (by omega),same,ls,hc,hl,rfl⟩
  · rw[if_neg hb]at ht
    dsimp only at ht
    have hl1:A1 n (if ls.getD 0 0=l then Ah ls 0 1 else ls):=by
      split
      · exact hl.swap (by omega) (by omega)
      · exact hl
    have hlen:(if ls.getD 0 0=l then Ah ls 0 1 else ls).length=ls.length:=by
      split
      · exact C3 _ _ _
      · rfl
    generalize (if ls.getD 0 0=l then Ah ls 0 1 else ls)=ls1 at ht hl1 hlen
    have hi1:=h.swap hc hl1 (by omega)
    have hc1:({ v with cl:=AP v.cl c (ls1,b) }:Sv).cl c=some (ls1,b):=Aj _ _ _
    have t1:Jv v { v with cl:=AP v.cl c (ls1,b) } c:=⟨rfl,rfl,rfl,rfl,rfl,rfl,rfl,rfl,rfl,rfl,rfl,fun d hd=>if_neg hd⟩
    generalize hv1:({ v with cl:=AP v.cl c (ls1,b) }:Sv)=v1 at ht hi1 hc1 t1
    have hw1:v1.watches=v.watches:=by rw[← hv1]
    have hval1:v1.value=v.value:=by rw[← hv1]
    split at ht
    · injection ht with h1 ht
      injection ht with h3 ht
      subst ht
      exact⟨hi1,by rw[hw1];exact hs.mono (by omega),t1,ls1,hc1,hl1,hlen⟩
    · rename_i hnp
      split at ht
      · rename_i i hfi
        injection ht with h1 ht
        injection ht with h3 ht
        subst ht
        have hil:=H7 hfi
        rw[lw]at hil
        refine⟨hi1.move hc1 hl1 (by omega) (by omega),?_,?_,Ah ls1 1 i,Aj _ _ _,hl1.swap (by omega) (by omega),by rw[C3];exact hlen⟩
        · show DM (B+1) (Ci v1.watches _ _)
          rw[hw1]
          exact hs.put _ _
        · refine ⟨t1.learned, t1.heat, t1.phase, t1.limits, t1.head, t1.broken, t1.model, t1.trace, t1.many, t1.room, ?_, fun d hd => ?_⟩
          · show(Ci _ _ _).length=_;rw[Cv];exact t1.wlen
          · show AP _ _ _ d=_;unfold AP;rw[if_neg hd];exact t1.cl d hd
      · rename_i hfn
        split at ht
        · injection ht with h1 ht
          injection ht with h3 ht
          subst ht
          exact⟨hi1,by rw[hw1];exact hs.mono (by omega),t1,ls1,hc1,hl1,hlen⟩
        · rename_i hnm
          injection ht with h1 ht
          injection ht with h3 ht
          subst ht
          have h0:isV v.value (ls1.getD 0 0)=0:=by omega
          refine⟨hi1.assign (hl1.get (by omega)) (by rw[hval1];exact IG h0) _,?_,⟨t1.learned,t1.heat,t1.phase,t1.limits,t1.head,t1.broken,t1.model,t1.trace,t1.many,t1.room,t1.wlen,t1.cl⟩,ls1,hc1,hl1,hlen⟩
          show DM (B+1) v1.watches
          rw[hw1]
          exact hs.mono (by omega)
def setW(v:Sv)(W:List (List Nat)):Sv:={ v with watches:=W }
def Gq(v:Sv)(l:Int)(ls:List Int)(b:Bool×Bool):Option Int:=
 if b.2=true then none else
 let ls1:=if ls.getD 0 0=l then Ah ls 0 1 else ls
 if 0<isV v.value (ls1.getD 0 0)then none else
 (CO v.value (ls1.drop 2) 2).map fun i=>ls1.getD i 0
def jK(W:List (List Nat))(c:Nat):Option Int→List (List Nat)
 | none=>W
 | some y=>Ci W (place y) c
theorem TH      (v : Sv) (c : Nat) (l : Int) (ls : List Int) (b : Bool × Bool) (W : List (List Nat)) :
    (AT v c l ls b).2.2.watches=jK v.watches c (Gq v l ls b) ∧
    AT (setW v W) c l ls b=((AT v c l ls b).1,(AT v c l ls b).2.1,setW (AT v c l ls b).2.2 (jK W c (Gq v l ls b)))∧((Gq v l ls b).isSome=true→(AT v c l ls b).1=false):=by
  unfold AT Gq
  by_cases hb:b.2=true
  · rw[if_pos hb,if_pos hb,if_pos hb];exact⟨rfl,rfl,fun h=>rfl⟩
  · rw[if_neg hb,if_neg hb,if_neg hb]
    dsimp only
    generalize (if ls.getD 0 0=l then Ah ls 0 1 else ls)=ls1
    by_cases hp:0<isV v.value (ls1.getD 0 0)
    · have hp':0<isV (setW v W).value (ls1.getD 0 0):=hp
      rw[if_pos hp,if_pos hp,if_pos hp'];exact⟨rfl,rfl,fun h=>by cases h⟩
    · have hp':¬ 0<isV (setW v W).value (ls1.getD 0 0):=hp
      rw[if_neg hp,if_neg hp,if_neg hp']
      have hv:(setW v W).value=v.value:=rfl
      rw[hv]
      cases hm:CO v.value (ls1.drop 2) 2 with
      | some i=>exact⟨rfl,rfl,fun h=>rfl⟩
      | none =>
        dsimp only
        by_cases hn:isV v.value (ls1.getD 0 0)<0
        · simp only[if_pos hn];exact⟨rfl,rfl,fun h=>by cases h⟩
        · simp only[if_neg hn];exact⟨rfl,rfl,fun h=>by cases h⟩
theorem Iv{val:List Int}:∀ {l:List Int}{k i:Nat},CO val l k=some i→∃y,l[i - k]? = some y∧k≤i∧0≤isV val y
 | [],k,i,h=>by cases h
 | x::l,k,i,h=>by
  unfold CO at h
  split at h
  ·rename_i hx
   injection h with h;subst h;exact⟨x,by rw[mH];rfl,kp _,hx⟩
  ·obtain⟨y,h1,h2,h3⟩:=Iv h
   refine⟨y,?_,by omega,h3⟩
   rw[show i - k=(i - (k+1))+1 by omega]
   exact h1
theorem T2        {v : Sv} {l : Int} {ls : List Int} {b : Bool × Bool} {y : Int} (h : Gq    v l ls b = some y) : 0 ≤ isV v.value y := by
  unfold Gq at h
  split at h
  · cases h
  · dsimp only at h
    generalize (if ls.getD 0 0=l then Ah ls 0 1 else ls)=ls1 at h
    split at h
    · cases h
    · cases hm:CO v.value (ls1.drop 2) 2 with
      | none=>rw[hm]at h;cases h
      | some i =>
        rw[hm]at h
        injection h with h
        obtain⟨z,h1,h2,h3⟩:=Iv hm
        rw[lX,show 2+(i - 2)=i by omega]at h1
        have:ls1.getD i 0=z:=by rw[lK,h1];rfl
        rw[← h]
        dsimp only
        rw[this]
        exact h3
theorem aX{W:List (List Nat)}{w k c:Nat}{M:List Nat}(h:k≠w):Ci (W.set w M) k c=(Ci W k c).set w M:=by
 unfold Ci
 have:(W.set w M).getD k []=W.getD k []:=by
  rw[lK,lK,lH,if_neg (fun e=>h e.symm)]
 rw[this,List.set_comm _ _ (fun e=>h e.symm)]
def WL(n:Nat)(v:Sv)(L:List Nat):Prop:=∀c∈L,∃ls b,v.cl c=some (ls,b)∧A1 n ls∧2≤ls.length
theorem YB{n:Nat}{v:Sv}{l:Int}(hl:isV v.value l<0){ls:List Int}{b:Bool×Bool}{y:Int}(hl0:l≠0)(hy0:y≠0)(h:Gq v l ls b=some y):place y≠place l:=fun e=>by
 have:=T2 h
 have e:=D9 hy0 hl0 e
 rw[e]at this
 omega
theorem T1        {n : Nat} {v : Sv} {l : Int} {ls : List Int} {b : Bool × Bool} {y : Int} (hc : A1    n ls) (h2 : 2 ≤ ls.length) (h : Gq    v l ls b = some y) : y ∈ ls := by
  unfold Gq at h
  split at h
  · cases h
  · dsimp only at h
    have hsub:∀y,y∈(if ls.getD 0 0=l then Ah ls 0 1 else ls)→y∈ls:=fun y hy=>by
      split at hy
      · exact Ot (by omega) (by omega) hy
      · exact hy
    generalize (if ls.getD 0 0=l then Ah ls 0 1 else ls)=ls1 at h hsub
    split at h
    · cases h
    · cases hm:CO v.value (ls1.drop 2) 2 with
      | none=>rw[hm]at h;cases h
      | some i =>
        rw[hm]at h
        injection h with h
        have hi:=H7 hm
        rw[lw]at hi
        rw[← h]
        exact hsub _ (kq (AQ (by omega)))
theorem Lf{n:Nat}{v:Sv}{c:Nat}{l:Int}{ls:List Int}{b:Bool×Bool}(hl:isV v.value l<0)(hl0:l≠0)(hc:A1 n ls)(h2:2≤ls.length)(M:List Nat):
  AT (setW v (v.watches.set (place l) M)) c l ls b=((AT v c l ls b).1,(AT v c l ls b).2.1,setW (AT v c l ls b).2.2 ((AT v c l ls b).2.2.watches.set (place l) M))∧(AT v c l ls b).2.2.watches[place l]? = v.watches[place l]? := by
 obtain⟨h1,h3,_⟩:=TH v c l ls b (v.watches.set (place l) M)
 rw[h3,h1]
 cases hm:Gq v l ls b with
 | none=>exact⟨rfl,rfl⟩
 | some y =>
  have hne:=YB (n:=n) hl hl0 (hc.1 y (T1 hc h2 hm)).1 hm
  refine⟨?_,?_⟩
  ·show(_,_,setW _ (Ci (v.watches.set (place l) M) (place y) c))=_
   rw[aX hne];rfl
  ·show(v.watches.set _ _)[_]? = _
   rw[lH,if_neg hne]
def CD(W:List (List Nat)):Nat:=(W.map List.length).sum
theorem CD.set{W:List (List Nat)}:∀ {k:Nat}{L:List Nat}(M:List Nat),W[k]? = some L→CD (W.set k M)+L.length=CD W+M.length:=by
 induction W with
 | nil=>intro k L M h;simp at h
 | cons A W ih =>
  intro k L M h
  cases k with
  | zero =>
   have:A=L:=by simpa using h
   subst this
   simp[CD];omega
  | succ k =>
   have:=ih (k:=k) M (by simpa using h)
   simp[CD]at *;omega
theorem CD.le{W:List (List Nat)}{L:List Nat}(h:L∈W):L.length≤CD W:=by
 obtain⟨k,hk,hL⟩:=mP h
 have:=CD.set (W:=W) (k:=k) (L:=L) [] (by rw[ky hk,hL])
 have h0:([]:List Nat).length=0:=rfl
 omega
theorem CD.put(W:List (List Nat))(k c:Nat):CD (Ci W k c)≤CD W+1:=by
  unfold Ci
  rcases ks k W.length with h | h
  · have hg := AQ       (d := ([] : List Nat)) h
    have:=CD.set (W.getD k []++[c]) hg
    rw[kr]at this
    have h1:[c].length=1:=rfl
    omega
  · rw[List.set_eq_of_length_le h];omega
theorem CD.short{W:List (List Nat)}(h:CD W≤100000000):KH W:=fun L hL=>lF (CD.le hL) h
theorem CD.shortN(W:List (List Nat)):DM (CD W) W:=fun L hL=>CD.le hL
theorem Mn(v:Sv)(c:Nat)(l:Int)(ls:List Int)(b:Bool×Bool):CD (AT v c l ls b).2.2.watches+(if (AT v c l ls b).1=true then 1 else 0)≤CD v.watches+1:=by
 obtain⟨h1,_,h3⟩:=TH v c l ls b []
 rw[h1]
 cases hm:Gq v l ls b with
 | none=>show CD v.watches+_≤_;split<;>omega
 | some y =>
  rw[hm]at h3
  rw[h3 rfl]
  have:=CD.put v.watches (place y) c
  show CD (Ci _ _ _)+0≤_
  omega
def An(l:Int):List Nat→List Nat→Sv→List Nat×Option Nat×Sv
 | [],K,v=>(K,none,v)
 | c::rest,K,v=>match v.cl c with
  | none=>(K,none,v)
  | some (ls,b) =>
   let r:=AT v c l ls b
   let K':=if r.1=true then K++[c]else K
   if r.2.1=true then (K'++rest,some c,r.2.2)else An l rest K' r.2.2
theorem G2{n:Nat}{v v':Sv}{c:Nat}(t:Jv v v' c)(hc:∃ls b,v'.cl c=some (ls,b)∧A1 n ls∧2≤ls.length){L:List Nat}(h:WL n v L):WL n v' L:=fun d hd=>by
 by_cases e:d=c
 ·rw[e];exact hc
 ·rw[t.cl d e];exact h d hd
theorem Jl          {n : Nat} {v : Sv} (h : Aw   n v) {c : Nat} {l y : Int} {ls : List Int} {b : Bool × Bool} (hy : isV v.value y ≠ 0) (hcl : A1    n ls) (h2 : 2 ≤ ls.length) : isV (AT     v c l ls b).2.2.value y = isV v.value y := by
  unfold AT
  split
  · rfl
  · dsimp only
    have hl1:A1 n (if ls.getD 0 0=l then Ah ls 0 1 else ls)∧(if ls.getD 0 0=l then Ah ls 0 1 else ls).length=ls.length:=by
      split
      · exact⟨hcl.swap (by omega) (by omega),C3 _ _ _⟩
      · exact⟨hcl,rfl⟩
    generalize (if ls.getD 0 0=l then Ah ls 0 1 else ls)=ls1 at hl1
    split
    · rfl
    · rename_i hp
      cases hm:CO v.value (ls1.drop 2) 2 with
      | some i=>rfl
      | none =>
        dsimp only
        split
        · rfl
        · rename_i hn
          have h0:isV v.value (ls1.getD 0 0)=0:=by omega
          have h0':=IG h0
          show isV (v.value.set (ls1.getD 0 0).natAbs _) y=_
          have hlt:(ls1.getD 0 0).natAbs<v.value.length:=by
            have:=(hl1.1.get (k:=0) (by omega)).2
            rw[h.fit.siz.value];omega
          have hne:y.natAbs≠(ls1.getD 0 0).natAbs:=fun e=>by
            apply hy
            unfold isV
            rw[e,h0']
            split<;>rfl
          unfold isV
          rw[Fg hlt,if_neg hne]
theorem Aw.setW{n:Nat}{v:Sv}(h:Aw n v){k:Nat}{M:List Nat}(hM:WL n v M):Aw n (setW v (v.watches.set k M)):=by
 obtain⟨⟨hz,hv,hli,hlm⟩,g2,g3,g4,g5⟩:=h
 refine⟨⟨⟨hz.small,by show(List.set _ _ _).length=_;rw[kv];exact hz.w,hz.value,hz.level,hz.why,hz.heat,hz.phase,hz.trail,hz.limits⟩,hv,hli,hlm⟩,g2,g3,g4,fun L hL=>?_⟩
 rcases mO hL with h' | h'
 ·exact g5 L h'
 ·rw[h'];exact hM
structure fB(n:Nat)(l:Int)(v v':Sv)(K':List Nat):Prop where
 inv:Aw n v'
 wl:WL n v' K'
 w:v'.watches[place l]? = v.watches[place l]?
 wlen:v'.watches.length=v.watches.length
 limits:v'.limits=v.limits
 head:v'.head=v.head
theorem FM          {n : Nat} {l : Int} (hl0 : l ≠ 0) : ∀ (rest K : List Nat) (v : Sv), Aw   n v → WL n v K → WL n v rest → isV v.value l < 0 →
    fB n l v (An l rest K v).2.2 (An l rest K v).1∧CD (An l rest K v).2.2.watches+(An l rest K v).1.length≤CD v.watches+K.length+rest.length
  | [],K,v,hi,hK,hr,hf=>⟨⟨hi,hK,rfl,rfl,rfl,rfl⟩,by show CD v.watches+K.length≤CD v.watches+K.length+0;omega⟩
  | c::rest,K,v,hi,hK,hr,hf=>by
    obtain⟨ls,b,hc,hcl,h2⟩:=hr c kx
    have hti:=JP hi (CD.shortN _) hc hcl h2 (l:=l) (a:=(AT v c l ls b).1) (f:=(AT v c l ls b).2.1) (v':=(AT v c l ls b).2.2) rfl
    obtain⟨t1,t2,t3,ls',t4,t5,t6⟩:=hti
    have htot:=Mn v c l ls b
    have hw:=(Lf (c:=c) (b:=b) hf hl0 hcl h2 []).2
    have hfl:isV (AT v c l ls b).2.2.value l<0:=by rw[Jl hi (by omega) hcl h2];exact hf
    have hcc:∃ls1 b1,(AT v c l ls b).2.2.cl c=some (ls1,b1)∧A1 n ls1∧2≤ls1.length:=⟨ls',b,t4,t5,by omega⟩
    have hr':WL n (AT v c l ls b).2.2 rest:=G2 t3 hcc fun d hd=>hr d (kz _ hd)
    have hK':WL n (AT v c l ls b).2.2 K:=G2 t3 hcc hK
    have hK2:WL n (AT v c l ls b).2.2 (if (AT v c l ls b).1=true then K++[c]else K):=by
      split
      · intro d hd
        rcases List.mem_append.1 hd with hd | hd
        · exact hK' d hd
        · rw[List.mem_singleton.1 hd];exact hcc
      · exact hK'
    have hKl:(if (AT v c l ls b).1=true then K++[c]else K).length=K.length+(if (AT v c l ls b).1=true then 1 else 0):=by
      split
      · rw[kr];rfl
      · rfl
    unfold An
    rw[hc]
    dsimp only
    generalize (if (AT v c l ls b).1=true then K++[c]else K)=K' at hK2 hKl
    generalize (if (AT v c l ls b).1=true then 1 else 0)=d at hKl htot
    have hcl:(c::rest).length=rest.length+1:=rfl
    by_cases hff:(AT v c l ls b).2.1=true
    · rw [if_pos hff]
      refine⟨⟨t1,fun d hd=>?_,hw,t3.wlen,t3.limits,t3.head⟩,?_⟩
      · rcases List.mem_append.1 hd with hd | hd
        · exact hK2 d hd
        · exact hr' d hd
      · show CD (AT v c l ls b).2.2.watches+(K'++rest).length≤_
        rw[kr]
        omega
    · rw[if_neg hff]
      obtain⟨k1,k2⟩:=FM hl0 rest K' _ t1 hK2 hr' hfl
      exact⟨⟨k1.inv,k1.wl,k1.w.trans hw,k1.wlen.trans t3.wlen,k1.limits.trans t3.limits,k1.head.trans t3.head⟩,by omega⟩
theorem gl{s:AG}{t:TypeId}{z:Nat}{x:AV}:Ae (s.next+1) (newObj s (AO t z [x])) (.slice (some (s.next,0)) 1 (some 1)) [x]:=by
 obtain⟨r,h1,h2,_⟩:=CP t z [x]
 refine⟨_,_,rfl,fun k u hk=>⟨s.next,0,rfl,by omega,?_⟩⟩
 have hk0:=Af hk
 rw[lD]
 exact B9 (show(newObj s (AO t z [x])).heap.get s.next=some (.row r) by rw[AY,if_pos rfl,h1]) (by rw[h2.1];exact hk0) (h2.2 k u hk)
theorem Yt       {v : Sv} {c : Nat} {l : Int} {ls : List Int} {b : Bool × Bool} (h : (AT     v c l ls b).2.1 = true) : (AT     v c l ls b).1 = true := by
  unfold AT at *
  split
  · rename_i hb;rw[if_pos hb]at h;cases h
  · rename_i hb
    rw[if_neg hb]at h
    dsimp only at *
    generalize (if ls.getD 0 0=l then Ah ls 0 1 else ls)=ls1 at h
    split
    · rfl
    · rename_i hb
      rw[if_neg hb]at h
      split
      · rename_i i hm;rw[hm]at h;cases h
      · rename_i hm
        rw[hm]at h
        dsimp only at h
        split
        · rfl
        · rename_i hn;rw[if_neg hn]at h
theorem Gc(a f:Bool):Rp (.tuple [.bool a,.bool f]) 0=some (.bool a):=rfl
theorem Gd(a f:Bool):Rp (.tuple [.bool a,.bool f]) 1=some (.bool f):=rfl
theorem gh{ow ow':Ow}{s s':AG}{p:Nat}{x:Sf}{v:Sv}(h:Ac ow s p x v)(k:AH (fun _=>False) ow s ow' s'){j:Nat}(hj:j<v.watches.length){xw:AV}(hx:x.w=xw):AC Try.prog s' 89 (Az xw j)=AC Try.prog s 89 (Az xw j):=by
 have:=(HK.ofB (x':=x) (v':=v) h (k.mono fun _ q=>q.elim) rfl).2 j hj rfl
 rw[hx]at this
 exact this
theorem L9:∀ (L:List Nat),A7 (ES L)=true
 | []=>rfl
 | c::L=>L9 L
theorem Yr{E:BJ}(hE:Good E){ow:Ow}{s:AG}{p:Nat}{x:Sf}{v:Sv}{w:Nat}{M:List Nat}(h:Ac ow s p x (setW v (v.watches.set w M))){n:Nat}(hi:Aw n v)(hM:WL n v M)(hw:w<v.watches.length)(hs:CD v.watches+M.length≤100000000){c:Nat}{ls:List Int}{b:Bool×Bool}(hc:v.cl c=some (ls,b))(hl:A1 n ls)(h2:2≤ls.length){l:Int}(hl0:l≠0)(hwl:w=place l)(hf:isV v.value l<0){u:AV}(hu:AC Try.prog s 89 (Az x.w w)=some u):
  WF E 92 [AJ p,AJ c,iv l] (fun r s'=>∃ow' x',r=.tuple [.bool (AT v c l ls b).1,.bool (AT v c l ls b).2.1]∧Ac ow' s' p x' (setW (AT v c l ls b).2.2 ((AT v c l ls b).2.2.watches.set w M))∧AH (BN p) ow s ow' s'∧x'.w=x.w∧AC Try.prog s' 89 (Az x.w w)=some u) s:=by
 subst hwl
 have hi':=hi.setW (k:=place l) hM
 have hsh:KH (setW v (v.watches.set (place l) M)).watches:=by
  refine CD.short (lF ?_ hs)
  have:=CD.set M (AQ (d:=([]:List Nat)) hw)
  show CD (v.watches.set _ _)≤_
  omega
 refine(Yu hE h hi'.fit hsh (c:=c) (ls:=ls) (b:=b) hc hl h2 l).mono ?_
 rintro _ s' ⟨a,f,v',ow',x',h1,rfl,h3,h4,h5,h6⟩
 obtain⟨t1,t2⟩:=Lf (n:=n) (c:=c) (b:=b) hf hl0 hl h2 M
 rw[t1]at h1
 injection h1 with h1 h7
 injection h7 with h7 h8
 subst h1;subst h7;subst h8
 refine⟨ow',x',rfl,h3,h4,h5,?_⟩
 rw[h6 (place l) (by show place l<(v.watches.set _ _).length;rw[kv];exact hw) ?_]
 ·exact hu
 ·show((AT v c l ls b).2.2.watches.set _ _)[_]? = (v.watches.set _ _)[_]?
  rw[lH,lH,if_pos rfl,if_pos rfl,if_pos hw,if_pos]
  have hg:=AQ (d:=([]:List Nat)) hw
  rw[← t2]at hg
  exact Af hg
theorem aR      {E : BJ}  (hE : Good E) {p n w : Nat} {l : Int} (hl0 : l ≠ 0) (hwl : w = place l) {L : List Nat} {u xw : AV} {B : Nat} (hB : B ≤ 50000000) (hLB : L.length ≤ B) (r1 x10 x17 : AV) {Q : Ar   → Prop} {ow0 : Ow} {s0 : AG}  :
    ∀ (rest:List Nat) (k:Nat) (K:List Nat) (s:AG) (ow:Ow) (x:Sf) (v:Sv) (x6 x7 x8 x9 x14 x15 x16:AV),L.drop k=rest→K.length≤k→k≤L.length→AH (BN p) ow0 s0 ow s→Ac ow s p x (setW v (v.watches.set w (K++L.drop K.length)))→x.w=xw→AC Try.prog s 89 (Az xw w)=some u→w<v.watches.length →
      Aw n v→WL n v K→WL n v L→isV v.value l<0→CD v.watches+K.length+rest.length≤B →
      (∀s' ow' x' M y6 y7 y8 y9 y13 y14 y15 y16,Ac ow' s' p x' (setW (An l rest K v).2.2 ((An l rest K v).2.2.watches.set w M))→x'.w=xw→BO ow' (p,2,w) s' (FJ u (An l rest K v).1.length) (ES (An l rest K v).1)→AH (BN p) ow0 s0 ow' s' →
        Q ⟨.exit 2,[AJ p,r1,iv l,u,FJ u (An l rest K v).1.length,G4 (An l rest K v).2.1,y6,y7,y8,y9,x10,u,iv (L.length:Int),y13,y14,y15,y16,x17],[],s'⟩) →
      WC E none (.loop Kc) Q [AJ p,r1,iv l,u,FJ u K.length,.ptr none,x6,x7,x8,x9,x10,u,iv (L.length:Int),iv (k:Int),x14,x15,x16,x17] [] s:=by
  intro rest
  induction rest with
  | nil =>
    intro k K s ow x v x6 x7 x8 x9 x14 x15 x16 hd hKk hk hst h hxw hu hw hi hK hr hf ht hq
    have hkl:=Fd hd hk
    subst hkl
    refine WC.loop' ?_
    simp only[Kc,Wi,lT,decide_false,Qa,Qb,Qc,Qd,Qe,Qf,Qg,Qh,Qi,Qj,Qk,Ql,Qm,Qn,true_and,and_true,Qo,Qp,Qq,Qr,Qs,Qt,Qu,Qv,Qw,Qx,Qy,Qz,Ra,Rb,Rc,Rd,Re,Rf,Rg,Rh,Ri,Rj,Rk,Rl,Rm,Ya,Yb,Yc,Rn,Ro,Rp,Yd,Ye,Rq,Rs,Rt,Ru,Rv,Rw,Rx]
    obtain⟨u',w1,w2,w3⟩:=h.watch_buf (k:=w) (L:=K++L.drop K.length) (by show(v.watches.set _ _)[_]? = _;rw[lH,if_pos rfl,if_pos hw])
    rw[hxw]at w2
    rw[hu]at w2
    injection w2 with w2
    subst w2
    have hb:=w3.kept (m:=K.length) (by rw[kn];exact(List.prefix_append ..).length_le)
    rw[← mL,lV (kp _),lz]at hb
    exact hq s ow x _ _ _ _ _ _ _ _ _ h hxw hb hst
  | cons c rest ih =>
    intro k K s ow x v x6 x7 x8 x9 x14 x15 x16 hd hKk hk hst h hxw hu hw hi hK hr hf ht hq
    obtain⟨hlt,hcL,hd'⟩:=DP hd
    obtain⟨ls,b,hc,hcl,h2⟩:=hr c (kq hcL)
    have hkk:decide ((k:Int)<(L.length:Int))=true:=decide_eq_true (by omega)
    have e3:=Ao Try.prog 3 (k:Int) 1 ⟨by omega,by omega⟩
    have hcast:((k:Int)+1)=((k+1:Nat):Int):=by omega
    have hML:(K++L.drop K.length).length=L.length:=by rw[kr,lw];omega
    obtain⟨u',w1,w2,w3⟩:=h.watch_buf (k:=w) (L:=K++L.drop K.length) (by show(v.watches.set _ _)[_]? = _;rw[lH,if_pos rfl,if_pos hw])
    rw[hxw]at w2
    rw[hu]at w2
    injection w2 with w2
    subst w2
    have hMk:(K++L.drop K.length)[k]? = some c:=by
      rw[lL hKk,lX,show K.length+(k - K.length)=k by omega]
      exact hcL
    have hMk':(ES (K++L.drop K.length))[k]? = some (AJ c):=by rw[lg,hMk];rfl
    have i1:=w3.addr Try.underlying89 El (k:=k) (by rw[kn,hML];exact hlt)
    have i2:=w3.get (t:=92) KK hMk'
    have hMw:WL n v (K++L.drop K.length):=fun d hd=>by
      rcases List.mem_append.1 hd with hd | hd
      · exact hK d hd
      · exact hr d (mh hd)
    have hrl:(c::rest).length=rest.length+1:=rfl
    have hti:=JP hi (CD.shortN _) hc hcl h2 (l:=l) (a:=(AT v c l ls b).1) (f:=(AT v c l ls b).2.1) (v':=(AT v c l ls b).2.2) rfl
    obtain⟨t1,t2,t3,ls',t4,t5,t6⟩:=hti
    have hcc:∃ls1 b1,(AT v c l ls b).2.2.cl c=some (ls1,b1)∧A1 n ls1∧2≤ls1.length:=⟨ls',b,t4,t5,by omega⟩
    have htot:=Mn v c l ls b
    have hfl:isV (AT v c l ls b).2.2.value l<0:=by rw[Jl hi (by omega) hcl h2];exact hf
    refine WC.loop' ?_
    generalize hW:WC E none (Aa.loop Kc) Q=W
    simp only[Kc,Wi,cN,hkk,i1,i2,Wa,Qa,Qb,Qc,Qd,Qe,Qf,Qg,Qh,Qi,Qj,Qk,Ql,Qm,Qn,true_and,and_true,Qo,Qp,Qq,Qr,Qs,Qt,Qu,Qv,Qw,Qx,Qy,Qz,Ra,Rb,Rc,Rd,Re,Rf,Rg,Rh,Ri,Rj,Rk,Rl,Rm,Ya,Yb,Yc,Rn,Ro,Rp,Yd,Ye,Rq,Rs,Rt,Ru,Rv,Rw,Rx]
    refine(Yr hE h hi hMw hw (by rw[hML];omega) hc hcl h2 hl0 hwl hf (by rw[hxw];exact hu)).mono ?_
    rintro _ s1 ⟨ow1,x1,rfl,g1,g2,g3,g4⟩
    have hpi:An l (c::rest) K v=(if (AT v c l ls b).2.1=true then ((if (AT v c l ls b).1=true then K++[c]else K)++rest,some c,(AT v c l ls b).2.2)else An l rest (if (AT v c l ls b).1=true then K++[c]else K) (AT v c l ls b).2.2):=by
      conv=>lhs;unfold An
      rw[hc]
    rw[hpi]at hq
    rw[hxw]at g3 g4
    generalize hv1:(AT v c l ls b).2.2=v1 at *
    have hw1:w<v1.watches.length:=by rw[t3.wlen];exact hw
    have hK1:WL n v1 K:=G2 t3 hcc hK
    have hr1:WL n v1 L:=G2 t3 hcc hr
    have hstep:=hst.trans g2
    have hsingle:∀s':AG,s'.next=s'.next:=fun _=>rfl
    have bl:=Cj (P:=Try.prog) (t:=89) (v:=AJ c) Try.underlying89 El SQ rfl rfl
    have hms:∀ (m:Nat) (i:Nat),Made.val i (.slice m)=.slice (some (i,0)) m (some m):=fun _ _=>rfl
    cases ha:(AT v c l ls b).1 with
    | false =>
      have hfb:(AT v c l ls b).2.1=false:=by
        cases hfb:(AT v c l ls b).2.1 with
        | false=>rfl
        | true=>exact absurd (Yt hfb) (by rw[ha];decide)
      rw[ha,hfb]at hq
      rw[ha]at htot
      have hq:=hq
      simp only[Bool.false_eq_true,if_false]at hq htot
      simp only[Gc,Gd,ha,hfb,NC,ND,QP,e3,hcast,Qa,Qb,Qc,Qd,Qe,Qf,Qg,Qh,Qi,Qj,Qk,Ql,Qm,Qn,true_and,and_true,Qo,Qp,Qq,Qr,Qs,Qt,Qu,Qv,Qw,Qx,Qy,Qz,Ra,Rb,Rc,Rd,Re,Rf,Rg,Rh,Ri,Rj,Rk,Rl,Rm,Ya,Yb,Yc,Rn,Ro,Rp,Yd,Ye,Rq,Rs,Rt,Ru,Rv,Rw,Rx]
      rw[← hW]
      exact ih (k+1) K s1 ow1 x1 v1 _ _ _ _ _ _ _ hd' (by omega) hlt hstep g1 g3 g4 hw1 t1 hK1 hr1 hfl (by omega) hq
    | true =>
      rw[ha]at hq htot
      simp only[if_true]at hq htot
      have hst2:AH (fun _=>False) ow1 s1 (ext ow1 s1.next (0,0,0)) (newObj s1 (AO 92 1 [AJ c])):=AH.new _ ow1 s1 _ _
      have d2:=g1.keep hst2 (fun _ q=>q.elim)
      have hlw:w<(setW v1 (v1.watches.set w (K++L.drop K.length))).watches.length:=by show w<(v1.watches.set _ _).length;rw[kv];exact hw1
      have g4':AC Try.prog (newObj s1 (AO 92 1 [AJ c])) 89 (Az xw w)=some u:=by
        rw[gh g1 hst2 hlw g3]
        exact g4
      obtain⟨u',q1,q2,q3⟩:=d2.watch_buf (k:=w) (L:=K++L.drop K.length) (by show(v1.watches.set _ _)[_]? = _;rw[lH,if_pos rfl,if_pos hw1])
      rw[g3,g4']at q2
      injection q2 with q2
      subst q2
      obtain⟨s3,a1,a2,a3,a4⟩:=q3.kept_put (st:=89) (e:=92) Try.underlying89 El Uv (by decide) PU (by rw[kn,hML];omega) (m:=K.length) (add:=[AJ c]) (by rw[kn,hML];show K.length+1≤_;omega) rfl gl
      have hbuf:List.take K.length (ES (K++L.drop K.length))++[AJ c]++List.drop (K.length+[AJ c].length) (ES (K++L.drop K.length))=ES ((K++[c])++L.drop (K++[c]).length):=by
        show _++_++List.drop (K.length+1) _=_
        rw[← mL,← mS,lV (kp _),lz,List.drop_append,mB,kr,mf (show K.length≤K.length+1 by omega),lZ,show K.length+(K.length+1 - K.length)=K.length+[c].length by show _=K.length+1;omega]
        simp[ES]
      rw[hbuf]at a2
      obtain⟨b1,b2⟩:=d2.watch_put (k:=w) (L:=K++L.drop K.length) (L':=(K++[c])++L.drop (K++[c]).length) (by show(v1.watches.set _ _)[_]? = _;rw[lH,if_pos rfl,if_pos hw1]) (by rw[g3];exact g4') a2 a3 a4
      have b1':Ac (ext ow1 s1.next (0,0,0)) s3 p x1 (setW v1 (v1.watches.set w ((K++[c])++L.drop (K++[c]).length))):=by
        have e:(v1.watches.set w (K++L.drop K.length)).set w ((K++[c])++L.drop (K++[c]).length)=v1.watches.set w ((K++[c])++L.drop (K++[c]).length):=List.set_set ..
        have:Ac (ext ow1 s1.next (0,0,0)) s3 p x1 (setW v1 ((v1.watches.set w (K++L.drop K.length)).set w ((K++[c])++L.drop (K++[c]).length))):=b1
        rw[e]at this
        exact this
      rw[g3]at b2
      have hstep3:AH (BN p) ow0 s0 (ext ow1 s1.next (0,0,0)) s3:=(hstep.trans (hst2.mono fun _ q=>q.elim)).trans (a3.mono fun t ht=>by rw[ht];rfl)
      have hK3:WL n v1 (K++[c]):=fun d hd=>by
        rcases List.mem_append.1 hd with hd | hd
        · exact hK1 d hd
        · rw[List.mem_singleton.1 hd];exact hcc
      have hKl:(K++[c]).length=K.length+1:=by rw[kr];rfl
      cases hfb:(AT v c l ls b).2.1 with
      | false =>
        rw[hfb]at hq
        simp only[Bool.false_eq_true,if_false]at hq
        have a1':Ad Try.prog (newObj s1 (AO 92 1 [AJ c])) [89,89] [FJ u K.length,.slice (some (s1.next,0)) 1 (some 1)]=some (FJ u (K++[c]).length,s3):=by rw[hKl];exact a1
        simp only[AJ]at bl a1'
        simp only[Gc,Gd,ha,hfb,NC,QO,ND,QP,AJ,bl,hms,a1',e3,hcast,Qa,Qb,Qc,Qd,Qe,Qf,Qg,Qh,Qi,Qj,Qk,Ql,Qm,Qn,true_and,and_true,Qo,Qp,Qq,Qr,Qs,Qt,Qu,Qv,Qw,Qx,Qy,Qz,Ra,Rb,Rc,Rd,Re,Rf,Rg,Rh,Ri,Rj,Rk,Rl,Rm,Ya,Yb,Yc,Rn,Ro,Rp,Yd,Ye,Rq,Rs,Rt,Ru,Rv,Rw,Rx]
        rw[← hW]
        exact ih (k+1) (K++[c]) s3 _ x1 v1 _ _ _ _ _ _ _ hd' (by omega) hlt hstep3 b1' g3 b2 hw1 t1 hK3 hr1 hfl (by omega) hq
      | true =>
        rw[hfb]at hq
        simp only[if_true]at hq
        have a1':Ad Try.prog (newObj s1 (AO 92 1 [AJ c])) [89,89] [FJ u K.length,.slice (some (s1.next,0)) 1 (some 1)]=some (FJ u (K++[c]).length,s3):=by rw[hKl];exact a1
        have hML2:((K++[c])++L.drop (K++[c]).length).length=L.length:=by rw[kr,lw];omega
        obtain⟨r1',r2'⟩:=a2.rest Try.underlying89 El (k:=k+1) (by rw[kn,hML2];omega)
        have hdrop:List.drop (k+1) (ES ((K++[c])++L.drop (K++[c]).length))=ES rest:=by
          rw[← mS,List.drop_append,mf (by omega),lZ,mB,show(K++[c]).length+(k+1 - (K++[c]).length)=k+1 by omega,hd']
        rw[hdrop]at r2'
        have hrk:rest.length=L.length - (k+1):=by rw[← hd',lw]
        obtain⟨s4,f1,f2,f3,f4⟩:=a2.kept_put (st:=89) (e:=92) Try.underlying89 El Uv (by decide) PU (by rw[kn,hML2];omega) (m:=(K++[c]).length) (add:=ES rest) (by rw[kn,kn,hML2];omega) (L9 rest) r2'
        have hbuf2:List.take (K++[c]).length (ES ((K++[c])++L.drop (K++[c]).length))++ES rest++List.drop ((K++[c]).length+(ES rest).length) (ES ((K++[c])++L.drop (K++[c]).length))=ES ((K++[c])++rest++L.drop ((K++[c]).length+rest.length)):=by
          generalize K++[c]=K'
          have hr2:(ES rest).length=rest.length:=kn ..
          rw[← mL,← mS,lV (kp _),lz,hr2,List.drop_append,mf (show K'.length≤K'.length+rest.length by omega),lZ,mB,show K'.length+(K'.length+rest.length - K'.length)=K'.length+rest.length by omega]
          simp[ES]
        rw[hbuf2]at f2
        obtain⟨e1,e2⟩:=b1'.watch_put (k:=w) (L:=(K++[c])++L.drop (K++[c]).length) (L':=(K++[c])++rest++L.drop ((K++[c]).length+rest.length)) (by show(v1.watches.set _ _)[_]? = _;rw[lH,if_pos rfl,if_pos hw1]) (by rw[g3];exact b2) f2 f3 f4
        have e1':Ac (ext ow1 s1.next (0,0,0)) s4 p x1 (setW v1 (v1.watches.set w ((K++[c])++rest++L.drop ((K++[c]).length+rest.length)))):=by
          have e:(v1.watches.set w ((K++[c])++L.drop (K++[c]).length)).set w ((K++[c])++rest++L.drop ((K++[c]).length+rest.length))=v1.watches.set w ((K++[c])++rest++L.drop ((K++[c]).length+rest.length)):=List.set_set ..
          have:Ac (ext ow1 s1.next (0,0,0)) s4 p x1 (setW v1 ((v1.watches.set w ((K++[c])++L.drop (K++[c]).length)).set w ((K++[c])++rest++L.drop ((K++[c]).length+rest.length)))):=e1
          rw[e]at this
          exact this
        simp only[AJ]at bl a1'
        simp only[Gc,Gd,ha,hfb,NC,QO,ND,Wb,AJ,bl,hms,a1',e3,hcast,r1',f1,Qa,Qb,Qc,Qd,Qe,Qf,Qg,Qh,Qi,Qj,Qk,Ql,Qm,Qn,true_and,and_true,Qo,Qp,Qq,Qr,Qs,Qt,Qu,Qv,Qw,Qx,Qy,Qz,Ra,Rb,Rc,Rd,Re,Rf,Rg,Rh,Ri,Rj,Rk,Rl,Rm,Ya,Yb,Yc,Rn,Ro,Rp,Yd,Ye,Rq,Rs,Rt,Ru,Rv,Rw,Rx]
        have hrl2:(ES rest).length=rest.length:=kn ..
        have hlen:(K++[c]).length+(ES rest).length=(K++[c]++rest).length:=by rw[hrl2,← kr]
        have hb:=f2.kept (m:=(K++[c]++rest).length) (by rw[kn];exact(List.prefix_append ..).length_le)
        rw[← mL,lV (kp _),List.take_of_length_le (kp _)]at hb
        rw[hlen]
        exact hq s4 _ x1 _ _ _ _ _ _ _ _ _ e1' g3 hb (hstep3.trans (f3.mono fun t ht=>by rw[ht];rfl))
def Bk(v:Sv)(w:Nat):Sv:={ v with head:=v.head+1,watches:=v.watches.set w [] }
def LO(w:Nat)(r:List Nat×Option Nat×Sv):Option Nat×Sv:=
 (r.2.1,match r.2.1 with
 | none=>setW r.2.2 (r.2.2.watches.set w r.1)
 | some _=>{ setW r.2.2 (r.2.2.watches.set w r.1)with head:=(r.2.2.trail.length:Int) })
def Au(v:Sv):Option Nat×Sv:=LO (place (-(v.trail.getD v.head.toNat 0))) (An (-(v.trail.getD v.head.toNat 0)) (v.watches.getD (place (-(v.trail.getD v.head.toNat 0))) []) [] (Bk v (place (-(v.trail.getD v.head.toNat 0)))))
inductive Bl:Sv→Option Nat→Sv→Prop
 | done {v:Sv}:¬ v.head<(v.trail.length:Int)→Bl v none v
 | more {v v1 v':Sv} {r:Option Nat}:v.head<(v.trail.length:Int)→Au v=(none,v1)→Bl v1 r v'→Bl v r v'
 | bad {v v1:Sv} {c:Nat}:v.head<(v.trail.length:Int)→Au v=(some c,v1)→Bl v (some c) v1
structure FW(n B:Nat)(v:Sv):Prop where
 inv:Aw n v
 tot:CD v.watches≤B
 h0:0≤v.head
 h1:v.head≤v.trail.length
theorem J5(val:List Int){l:Int}(hl:l≠0):isV val (-l)=-(isV val l):=by
 unfold isV
 rw[show(-l).natAbs=l.natAbs by omega]
 split<;>split<;>omega
theorem Aw.isV{n:Nat}{v:Sv}(h:Aw n v){y:Int}(hy:y∈v.trail):Go.Proofs.Ytilhhmkdcoajnaa.Am.isV v.value y=1:=by
 have h1:=h.holds y hy
 have h0:=(h.fit.lits y hy).1
 unfold Go.Proofs.Ytilhhmkdcoajnaa.Am.isV
 rw[h1]
 unfold Pc
 split<;>omega
theorem JN        {n : Nat} {l : Int} : ∀ (rest K : List Nat) (v : Sv), v.trail.length ≤ (An     l rest K v).2.2.trail.length
  | [],K,v=>kp _
  | c::rest,K,v=>by
    unfold An
    cases hc:v.cl c with
    | none=>exact kp _
    | some lb =>
      obtain⟨ls,b⟩:=lb
      have ht : v.trail.length ≤ (AT     v c l ls b).2.2.trail.length := by
        unfold AT
        split
        · exact kp _
        · dsimp only
          generalize (if ls.getD 0 0=l then Ah ls 0 1 else ls)=ls1
          split
          · exact kp _
          · split
            · exact kp _
            · split
              · exact kp _
              · show _≤(v.trail++[_]).length
                rw[kr];omega
      dsimp only
      split
      · exact ht
      · exact lF ht (JN (n:=n) rest _ _)
theorem Cd{n B:Nat}{v:Sv}(h:FW n B v)(hh:v.head<(v.trail.length:Int)):FW n B (Au v).2∧(Au v).2.limits=v.limits∧v.head+1≤(Au v).2.head:=by
 obtain⟨hi,ht,h0,h1⟩:=h
 have hy:v.trail.getD v.head.toNat 0∈v.trail:=kq (AQ (by omega))
 generalize hyy:v.trail.getD v.head.toNat 0=y at hy
 have hVL:=hi.fit.lits y hy
 have hy1:=hi.isV hy
 have hl0:-y≠0:=by have:=hVL.1;omega
 have hwl:place (-y)<v.watches.length:=by
  rw[hi.fit.siz.w]
  exact VL.place ⟨hl0,by have:=hVL.2;omega⟩
 have hf:isV v.value (-y)<0:=by rw[J5 _ hVL.1,hy1];omega
 have hg:=AQ (d:=([]:List Nat)) hwl
 have hLw:WL n v (v.watches.getD (place (-y)) []):=hi.wc _ (kq hg)
 have hiA:Aw n (Bk v (place (-y))):=by
  obtain⟨⟨hz,hv,hli,hlm⟩,g2,g3,g4,g5⟩:=hi.setW (k:=place (-y)) (M:=[]) (fun d hd=>by cases hd)
  exact⟨⟨⟨hz.small,hz.w,hz.value,hz.level,hz.why,hz.heat,hz.phase,hz.trail,hz.limits⟩,hv,hli,hlm⟩,g2,g3,g4,g5⟩
 obtain⟨k1,k2⟩:=FM hl0 (v.watches.getD (place (-y)) []) [] (Bk v (place (-y))) hiA (fun d hd=>by cases hd) hLw hf
 have htA:CD (Bk v (place (-y))).watches+(v.watches.getD (place (-y)) []).length=CD v.watches:=by
  have:=CD.set [] hg
  exact this
 have htr:=JN (n:=n) (l:=-y) (v.watches.getD (place (-y)) []) [] (Bk v (place (-y)))
 unfold Au LO
 rw[hyy]
 generalize An (-y) (v.watches.getD (place (-y)) []) [] (Bk v (place (-y)))=r at k1 k2 htr
 obtain⟨K,bad,v1⟩:=r
 dsimp only at k1 k2 htr ⊢
 have hi2:=k1.inv.setW (k:=place (-y)) k1.wl
 have hw0:v1.watches[place (-y)]? = some []:=by
  rw[k1.w]
  show(v.watches.set _ _)[_]? = _
  rw[lH,if_pos rfl,if_pos hwl]
 have htt:CD (v1.watches.set (place (-y)) K)≤B:=by
  have:=CD.set K hw0
  have e:([]:List Nat).length=0:=rfl
  omega
 have hhd:v1.head=v.head+1:=k1.head
 have hlim:v1.limits=v.limits:=k1.limits
 have htr:v.trail.length≤v1.trail.length:=htr
 cases bad with
 | none=>exact⟨⟨hi2,htt,by show 0≤v1.head;omega,by show v1.head≤(v1.trail.length:Int);omega⟩,hlim,by show _≤v1.head;omega⟩
 | some c =>
  obtain⟨⟨hz,hv,hli,hlm⟩,g2,g3,g4,g5⟩:=hi2
  exact⟨⟨⟨⟨⟨hz.small,hz.w,hz.value,hz.level,hz.why,hz.heat,hz.phase,hz.trail,hz.limits⟩,hv,hli,hlm⟩,g2,g3,g4,g5⟩,htt,by show(0:Int)≤(v1.trail.length:Int);omega,mF _⟩,hlim,by show _≤(v1.trail.length:Int);omega⟩
theorem Bl.keep{n B:Nat}{v v':Sv}{r:Option Nat}(k:Bl v r v'):FW n B v→FW n B v'∧v'.limits=v.limits:=by
 induction k with
 | done _=>exact fun h=>⟨h,rfl⟩
 | more h1 h2 _ ih =>
  intro h
  have:=Cd h h1
  rw[h2]at this
  obtain⟨q1,q2,_⟩:=this
  obtain⟨q3,q4⟩:=ih q1
  exact⟨q3,q4.trans q2⟩
 | bad h1 h2 =>
  intro h
  have:=Cd h h1
  rw[h2]at this
  exact⟨this.1,this.2.1⟩
theorem Is(c:Option Nat):AM Try.prog .neq 92 (G4 c) (.ptr none)=some (.bool c.isSome):=by
 cases c<;>rfl
theorem aT{E:BJ}{K:List AV→AG→Prop}{ow:Ow}{s:AG}{p:Nat}{x:Sf}{v:Sv}(h:Ac ow s p x v){y:Int}(h0:0≤v.head)(hgy:v.trail[v.head.toNat]? = some y)(hy:y.natAbs<1000000000)(hl:v.trail.length<1000000000)(r2 r3 r4 r5 r6 r7 r8 r9 r10 r11 r12 r13 r14 r15 r16 r17:AV)
  (hK:∀s1,Ac ow s1 p x { v with head:=v.head+1 }→AH (BI p) ow s ow s1→K [AV.ptr (some (p,0)),AV.ptr none,iv (-y),r3,r4,r5,r6,r7,r8,r9,r10,r11,r12,r13,r14,r15,r16,r17] s1):
  Qb E We (fun u s'=>Qb E Wh K [] u s') [] [AV.ptr (some (p,0)),AV.ptr none,r2,r3,r4,r5,r6,r7,r8,r9,r10,r11,r12,r13,r14,r15,r16,r17] s:=by
 have hlt:=Af hgy
 have hht:((v.head.toNat:Nat):Int)=v.head:=by omega
 have i1:=h.trail.addr Try.underlying23 Be (k:=v.head.toNat) (by rw[kn];omega)
 have i2:=h.trail.get (t:=3) Df (k:=v.head.toNat) (Av hgy)
 rw[hht]at i1
 have en:=FT Try.prog y ⟨by omega,by omega⟩
 have e3:=Ao Try.prog 3 v.head 1 ⟨by omega,by omega⟩
 obtain⟨s1,a1,a2,a3,a4⟩:=h.set_head (v.head+1)
 simp only[We,Wh,AF,Kt,E0,h.ld_head,h.ld_tr,i1,i2,en,e3,BU,a1,AX,Qa,Qb,Qc,Qd,Qe,Qf,Qg,Qh,Qi,Qj,Qk,Ql,Qm,Qn,true_and,and_true,Qo,Qp,Qq,Qr,Qs,Qt,Qu,Qv,Qw,Qx,Qy,Qz,Ra,Rb,Rc,Rd,Re,Rf,Rg,Rh,Ri,Rj,Rk,Rl,Rm,Ya,Yb,Yc,Rn,Ro,Rp,Yd,Ye,Rq,Rs,Rt,Ru,Rv,Rw,Rx]
 exact hK s1 a2 a3
theorem UA        {E : BJ}  (hE : Good E) {p n : Nat} {B : Nat} (hB : B ≤ 50000000) {ow0 : Ow} {s0 : AG}  {Q : Ar   → Prop} :
    ∀ (m : Nat) (s : AG)  (ow : Ow) (x : Sf) (v : Sv) (r2 r3 r4 r5 r6 r7 r8 r9 r10 r11 r12 r13 r14 r15 r16 r17 : AV), n - v.head.toNat = m → FW   n B v → Ac  ow s p x v → AH   (BN   p) ow0 s0 ow s →
      (∀s' ow' x' v' y2 y3 y4 y5 y6 y7 y8 y9 y10 y11 y12 y13 y14 y15 y16 y17,Bl v none v'→Ac ow' s' p x' v'→AH (BN p) ow0 s0 ow' s'→Q ⟨.exit 0,[AJ p,.ptr none,y2,y3,y4,y5,y6,y7,y8,y9,y10,y11,y12,y13,y14,y15,y16,y17],[],s'⟩) →
      (∀s' ow' x' v' c y2 y3 y4 y5 y6 y7 y8 y9 y10 y11 y12 y13 y14 y15 y16 y17,Bl v (some c) v'→Ac ow' s' p x' v'→AH (BN p) ow0 s0 ow' s'→Q ⟨.ret,[AJ p,AJ c,y2,y3,y4,y5,y6,y7,y8,y9,y10,y11,y12,y13,y14,y15,y16,y17],[],s'⟩) →
      WC E none (.loop Kd) Q [AJ p,.ptr none,r2,r3,r4,r5,r6,r7,r8,r9,r10,r11,r12,r13,r14,r15,r16,r17] [] s:=by
  intro m
  induction m using Nat.strongRecOn with
  | ind m ih =>
    intro s ow x v r2 r3 r4 r5 r6 r7 r8 r9 r10 r11 r12 r13 r14 r15 r16 r17 hm h2 h hst hq1 hq2
    obtain⟨hi,ht,h0,h1⟩:=h2
    have hz:=hi.fit.siz
    have hn:=hz.small
    have htl:=hz.trail
    have ln:∀s,A6 Try.prog s 23 x.tr=some (iv (v.trail.length:Int)):=fun s=>by
      have:=h.trail.len Try.underlying23 s
      rw[kn]at this
      exact this
    refine WC.loop' ?_
    generalize hW:WC E none (Aa.loop Kd) Q=W
    by_cases hh:v.head<(v.trail.length:Int)
    · have hd : decide (v.head < (v.trail.length : Int)) = true := decide_eq_true hh
      have hgy:=AQ (d:=(0:Int)) (show v.head.toNat<v.trail.length by omega)
      have hy:v.trail.getD v.head.toNat 0∈v.trail:=kq hgy
      generalize hyy:v.trail.getD v.head.toNat 0=y at hy hgy
      have hVL:=hi.fit.lits y hy
      have hy1:=hi.isV hy
      have hl0:-y≠0:=by have:=hVL.1;omega
      have hVLn:(-y).natAbs≤n:=by have:=hVL.2;omega
      have hwl:place (-y)<v.watches.length:=by
        rw[hi.fit.siz.w]
        exact VL.place ⟨hl0,hVLn⟩
      have hf:isV v.value (-y)<0:=by rw[J5 _ hVL.1,hy1];omega
      have hg:=AQ (d:=([]:List Nat)) hwl
      have hLw:WL n v (v.watches.getD (place (-y)) []):=hi.wc _ (kq hg)
      have hiA:Aw n (Bk v (place (-y))):=by
        obtain⟨⟨hz,hv,hli,hlm⟩,g2,g3,g4,g5⟩:=hi.setW (k:=place (-y)) (M:=[]) (fun d hd=>by cases hd)
        exact⟨⟨⟨hz.small,hz.w,hz.value,hz.level,hz.why,hz.heat,hz.phase,hz.trail,hz.limits⟩,hv,hli,hlm⟩,g2,g3,g4,g5⟩
      have hps:Au v=LO (place (-y)) (An (-y) (v.watches.getD (place (-y)) []) [] (Bk v (place (-y)))):=by
        unfold Au
        rw[hyy]
      have hkeep:=Cd ⟨hi,ht,h0,h1⟩ hh
      generalize hL:v.watches.getD (place (-y)) []=L at hg hLw hps
      have hLB:L.length≤B:=lF (CD.le (kq hg)) ht
      simp only[Kd,WZ,AJ,AF,Kt,E0,It,h.ld_head,h.ld_tr,ln,hd,Qa,Qb,Qc,Qd,Qe,Qf,Qg,Qh,Qi,Qj,Qk,Ql,Qm,Qn,true_and,and_true,Qo,Qp,Qq,Qr,Qs,Qt,Qu,Qv,Qw,Qx,Qy,Qz,Ra,Rb,Rc,Rd,Re,Rf,Rg,Rh,Ri,Rj,Rk,Rl,Rm,Ya,Yb,Yc,Rn,Ro,Rp,Yd,Ye,Rq,Rs,Rt,Ru,Rv,Rw,Rx]
      refine aT h h0 hgy (by omega) (by omega) _ _ _ _ _ _ _ _ _ _ _ _ _ _ _ _ ?_
      intro s1 a2 a3
      obtain⟨u,w1,w2,w3⟩:=a2.watch_buf (k:=place (-y)) (L:=L) hg
      have ko:=w3.kept_op Try.underlying89 El
      have lu:∀s,A6 Try.prog s 89 u=some (iv (L.length:Int)):=fun s=>by
        have:=w3.len Try.underlying89 s
        rw[kn]at this
        exact this
      rw[kn]at ko
      have hself:Fs x.w x.w=true:=by obtain⟨us,_,w2,_⟩:=h.w;exact w2.self
      simp only[cJ,AJ,AF,It,a2.ld_w,Qa,Qb,Qc,Qd,Qe,Qf,Qg,Qh,Qi,Qj,Qk,Ql,Qm,Qn,true_and,and_true,Qo,Qp,Qq,Qr,Qs,Qt,Qu,Qv,Qw,Qx,Qy,Qz,Ra,Rb,Rc,Rd,Re,Rf,Rg,Rh,Ri,Rj,Rk,Rl,Rm,Ya,Yb,Yc,Rn,Ro,Rp,Yd,Ye,Rq,Rs,Rt,Ru,Rv,Rw,Rx]
      refine(Fm hE (l:=-y) (by omega)).mono ?_
      rintro _ _ ⟨rfl,rfl⟩
      simp only[BP,Ap,a2.ld_w,hself,w1,w2,cK,lu,ko,cL,cM,Qa,Qb,Qc,Qd,Qe,Qf,Qg,Qh,Qi,Qj,Qk,Ql,Qm,Qn,true_and,and_true,Qo,Qp,Qq,Qr,Qs,Qt,Qu,Qv,Qw,Qx,Qy,Qz,Ra,Rb,Rc,Rd,Re,Rf,Rg,Rh,Ri,Rj,Rk,Rl,Rm,Ya,Yb,Yc,Rn,Ro,Rp,Yd,Ye,Rq,Rs,Rt,Ru,Rv,Rw,Rx]
      have hset:(v.watches.set (place (-y)) []).set (place (-y)) ([]++L.drop 0)=v.watches:=by
        rw[List.set_set]
        show v.watches.set _ L=_
        obtain⟨hgl,hge⟩:=List.getElem?_eq_some_iff.1 hg
        rw[← hge,List.set_getElem_self]
      have a2':Ac ow s1 p x (setW (Bk v (place (-y))) ((Bk v (place (-y))).watches.set (place (-y)) ([]++L.drop ([]:List Nat).length))):=by
        have e:setW (Bk v (place (-y))) ((Bk v (place (-y))).watches.set (place (-y)) ([]++L.drop ([]:List Nat).length))={ v with head:=v.head+1 }:=by
          show({ v with head:=v.head+1,watches:=(v.watches.set (place (-y)) []).set (place (-y)) ([]++L.drop 0) }:Sv)=_
          rw[hset]
        rw[e];exact a2
      have hlA:place (-y)<(Bk v (place (-y))).watches.length:=by show _<(v.watches.set _ _).length;rw[kv];exact hwl
      have htA:CD (Bk v (place (-y))).watches+L.length=CD v.watches:=CD.set [] hg
      have hstA:AH (BN p) ow0 s0 ow s1:=hst.trans a3.b
      refine aR hE hl0 (n:=n) (rfl:place (-y)=place (-y)) hB hLB (u:=u) (xw:=x.w) (.ptr none) (.bool true) r17 (ow0:=ow0) (s0:=s0) L 0 [] s1 ow x (Bk v (place (-y))) _ _ _ _ _ _ _ rfl (kp _) (ku _) hstA a2' rfl w2 hlA hiA (fun d hd=>by cases hd) hLw hf (by show CD _+0+_≤_;omega) ?_
      intro s2 ow2 x2 M y6 y7 y8 y9 y13 y14 y15 y16 k1 k2 k3 k4
      have hpk:=(FM hl0 L [] (Bk v (place (-y))) hiA (fun d hd=>by cases hd) hLw hf).1
      generalize An (-y) L [] (Bk v (place (-y)))=r at *
      obtain⟨K,bad,V⟩:=r
      dsimp only at k1 k2 k3 k4 hps hpk ⊢
      have hlV:place (-y)<(setW V (V.watches.set (place (-y)) M)).watches.length:=by show _<(V.watches.set _ _).length;rw[kv,hpk.wlen];exact hlA
      obtain⟨us,z1,z2,z3⟩:=k1.w
      have iw:=z2.addr Try.underlying88 EB (k:=place (-y)) (by omega)
      rw[k2]at iw
      obtain⟨s3,b1,b2,b3,b4⟩:=k1.watch_set hlV k3
      rw[k2]at b1
      have hself2:Fs x.w x.w=true:=by have:=z2.self;rw[k2]at this;exact this
      have ldw2:=k1.ld_w
      rw[k2]at ldw2
      have b2':Ac ow2 s3 p x2 (setW V (V.watches.set (place (-y)) K)):=by
        have e:(V.watches.set (place (-y)) M).set (place (-y)) K=V.watches.set (place (-y)) K:=List.set_set ..
        have:Ac ow2 s3 p x2 (setW V ((V.watches.set (place (-y)) M).set (place (-y)) K)):=b2
        rw[e]at this
        exact this
      simp only[if_true,Wc,AJ,AF,It,ldw2,Qa,Qb,Qc,Qd,Qe,Qf,Qg,Qh,Qi,Qj,Qk,Ql,Qm,Qn,true_and,and_true,Qo,Qp,Qq,Qr,Qs,Qt,Qu,Qv,Qw,Qx,Qy,Qz,Ra,Rb,Rc,Rd,Re,Rf,Rg,Rh,Ri,Rj,Rk,Rl,Rm,Ya,Yb,Yc,Rn,Ro,Rp,Yd,Ye,Rq,Rs,Rt,Ru,Rv,Rw,Rx]
      refine(Fm hE (l:=-y) (by omega)).mono ?_
      rintro _ _ ⟨rfl,rfl⟩
      cases bad with
      | none =>
        have hps:Au v=(none,setW V (V.watches.set (place (-y)) K)):=hps
        rw[hps]at hkeep
        simp only[BP,Ap,ldw2,hself2,iw,BU,b1,AX,QQ,Is,Option.isSome,Qa,Qb,Qc,Qd,Qe,Qf,Qg,Qh,Qi,Qj,Qk,Ql,Qm,Qn,true_and,and_true,Qo,Qp,Qq,Qr,Qs,Qt,Qu,Qv,Qw,Qx,Qy,Qz,Ra,Rb,Rc,Rd,Re,Rf,Rg,Rh,Ri,Rj,Rk,Rl,Rm,Ya,Yb,Yc,Rn,Ro,Rp,Yd,Ye,Rq,Rs,Rt,Ru,Rv,Rw,Rx]
        rw[← hW]
        refine ih (n - (setW V (V.watches.set (place (-y)) K)).head.toNat) ?_ s3 ow2 x2 _ _ _ _ _ _ _ _ _ _ _ _ _ _ _ _ _ rfl hkeep.1 b2' (k4.trans b3.w) (fun s' ow' x' v' y2 y3 y4 y5 y6 y7 y8 y9 y10 y11 y12 y13 y14 y15 y16 y17 e=>hq1 s' ow' x' v' y2 y3 y4 y5 y6 y7 y8 y9 y10 y11 y12 y13 y14 y15 y16 y17 (.more hh hps e)) (fun s' ow' x' v' c y2 y3 y4 y5 y6 y7 y8 y9 y10 y11 y12 y13 y14 y15 y16 y17 e=>hq2 s' ow' x' v' c y2 y3 y4 y5 y6 y7 y8 y9 y10 y11 y12 y13 y14 y15 y16 y17 (.more hh hps e))
        have:=hkeep.2.2
        have:=hkeep.1.h1
        have:=hkeep.1.inv.fit.siz.trail
        dsimp only at *
        omega
      | some c =>
        have hps:Au v=(some c,{ setW V (V.watches.set (place (-y)) K)with head:=(V.trail.length:Int) }):=hps
        have ln2:∀s,A6 Try.prog s 23 x2.tr=some (iv ((setW V (V.watches.set (place (-y)) K)).trail.length:Int)):=fun s=>by
          have:=b2'.trail.len Try.underlying23 s
          rw[kn]at this
          exact this
        obtain⟨s4,d1,d2,d3,d4⟩:=b2'.set_head ((setW V (V.watches.set (place (-y)) K)).trail.length:Int)
        simp only[BP,Ap,ldw2,hself2,iw,BU,b1,AX,QQ,Is,Option.isSome,Wd,AJ,AF,E0,Kt,b2'.ld_tr,ln2,d1,Wf,Qa,Qb,Qc,Qd,Qe,Qf,Qg,Qh,Qi,Qj,Qk,Ql,Qm,Qn,true_and,and_true,Qo,Qp,Qq,Qr,Qs,Qt,Qu,Qv,Qw,Qx,Qy,Qz,Ra,Rb,Rc,Rd,Re,Rf,Rg,Rh,Ri,Rj,Rk,Rl,Rm,Ya,Yb,Yc,Rn,Ro,Rp,Yd,Ye,Rq,Rs,Rt,Ru,Rv,Rw,Rx]
        exact hq2 s4 ow2 x2 _ c _ _ _ _ _ _ _ _ _ _ _ _ _ _ _ _ (.bad hh hps) d2 (k4.trans (b3.w.trans d3.b))
    · have hd:decide (v.head<(v.trail.length:Int))=false:=decide_eq_false hh
      simp only[Kd,WZ,AJ,AF,Kt,E0,h.ld_head,h.ld_tr,ln,hd,Qa,Qb,Qc,Qd,Qe,Qf,Qg,Qh,Qi,Qj,Qk,Ql,Qm,Qn,true_and,and_true,Qo,Qp,Qq,Qr,Qs,Qt,Qu,Qv,Qw,Qx,Qy,Qz,Ra,Rb,Rc,Rd,Re,Rf,Rg,Rh,Ri,Rj,Rk,Rl,Rm,Ya,Yb,Yc,Rn,Ro,Rp,Yd,Ye,Rq,Rs,Rt,Ru,Rv,Rw,Rx]
      exact hq1 s ow x v _ _ _ _ _ _ _ _ _ _ _ _ _ _ _ _ (Bl.done hh) h hst
theorem IQ{E:BJ}(hE:Good E){ow:Ow}{s:AG}{p:Nat}{x:Sf}{v:Sv}(h:Ac ow s p x v){n B:Nat}(hB:B≤50000000)(h2:FW n B v):
  WF E 64 [AJ p] (fun r s'=>∃c v' ow' x',Bl v c v'∧r=G4 c∧Ac ow' s' p x' v'∧AH (BN p) ow s ow' s') s:=by
 refine hE.go fw (by decide) rfl ?_
 simp only[kQ,cI,Qa,Qb,Qc,Qd,Qe,Qf,Qg,Qh,Qi,Qj,Qk,Ql,Qm,Qn,true_and,and_true,Qo,Qp,Qq,Qr,Qs,Qt,Qu,Qv,Qw,Qx,Qy,Qz,Ra,Rb,Rc,Rd,Re,Rf,Rg,Rh,Ri,Rj,Rk,Rl,Rm,Ya,Yb,Yc,Rn,Ro,Rp,Yd,Ye,Rq,Rs,Rt,Ru,Rv,Rw,Rx]
 refine UA hE hB (ow0:=ow) (s0:=s) _ s ow x v _ _ _ _ _ _ _ _ _ _ _ _ _ _ _ _ rfl h2 h (AH.refl _ _ _) ?_ ?_
 ·intro s' ow' x' v' y2 y3 y4 y5 y6 y7 y8 y9 y10 y11 y12 y13 y14 y15 y16 y17 e1 e2 e3
  simp only[if_true,Wg,Qa,Qb,Qc,Qd,Qe,Qf,Qg,Qh,Qi,Qj,Qk,Ql,Qm,Qn,true_and,and_true,Qo,Qp,Qq,Qr,Qs,Qt,Qu,Qv,Qw,Qx,Qy,Qz,Ra,Rb,Rc,Rd,Re,Rf,Rg,Rh,Ri,Rj,Rk,Rl,Rm,Ya,Yb,Yc,Rn,Ro,Rp,Yd,Ye,Rq,Rs,Rt,Ru,Rv,Rw,Rx]
  exact⟨none,v',ow',x',e1,rfl,e2,e3⟩
 ·intro s' ow' x' v' c y2 y3 y4 y5 y6 y7 y8 y9 y10 y11 y12 y13 y14 y15 y16 y17 e1 e2 e3
  simp only[Qa,Qb,Qc,Qd,Qe,Qf,Qg,Qh,Qi,Qj,Qk,Ql,Qm,Qn,true_and,and_true,Qo,Qp,Qq,Qr,Qs,Qt,Qu,Qv,Qw,Qx,Qy,Qz,Ra,Rb,Rc,Rd,Re,Rf,Rg,Rh,Ri,Rj,Rk,Rl,Rm,Ya,Yb,Yc,Rn,Ro,Rp,Yd,Ye,Rq,Rs,Rt,Ru,Rv,Rw,Rx]
  exact⟨some c,v',ow',x',e1,rfl,e2,e3⟩
theorem FH{α:Type}{l:List α}{k:Nat}{d y:α}(h:l[k]? = some y):l.getD k d=y:=by
 rw[lK,h];rfl
theorem Gb(p:Nat):AM Try.prog .eql 44 (AJ p) (.ptr none)=some (.bool false):=rfl
def Hj(v:Sv)(c:Nat)(a b:Int):Sv:=setW v (Ci (Ci v.watches (place a) c) (place b) c)
theorem Pa{E:BJ}(hE:Good E){K:List AV→AG→Prop}{ow:Ow}{s:AG}{p:Nat}{x:Sf}{v:Sv}(h:Ac ow s p x v){y:Int}(hp:place y<v.watches.length)(hy:y.natAbs<1000000000)(hs:KH v.watches)(c:Nat)(x3 x4 x5 x6:AV)
  (hK:∀s1 ow1,Ac ow1 s1 p x (setW v (Ci v.watches (place y) c))→AH (Ja p) ow s ow1 s1→K [AV.ptr (some (p,0)),AV.ptr (some (c,0)),iv y,x3,x4,x5,x6] s1):
  Qb E Wz K [] [AV.ptr (some (p,0)),AV.ptr (some (c,0)),iv y,x3,x4,x5,x6] s:=by
 have hst:AH (fun _=>False) ow s (ext ow s.next (0,0,0)) (newObj s (AO 92 1 [AJ c])):=AH.new _ ow s _ _
 have d2:=h.keep hst (fun _ q=>q.elim)
 have hwk:v.watches[place y]? = some (v.watches.getD (place y) []):=AQ hp
 obtain⟨w1,w1',s3,s4,ow',f1,f2,f3,ldw3,f4,f5,f6,f7⟩:=d2.watch_in (k:=place y) hwk (by have:=hs _ (kq hwk);omega) c (q:=s.next) (ty:=92) (sz':=1) (by rw[AY,if_pos rfl])
 have bl:=Cj (P:=Try.prog) (t:=89) (v:=AJ c) Try.underlying89 El SQ rfl rfl
 have hms:∀ (m:Nat) (i:Nat),Made.val i (.slice m)=.slice (some (i,0)) m (some m):=fun _ _=>rfl
 have hself:Fs x.w x.w=true:=by obtain⟨us,_,w2,_⟩:=h.w;exact w2.self
 have ldw:=h.ld_w
 have ldw':=d2.ld_w
 simp only[AJ]at bl f1 f2 f3 f4 ldw'
 simp only[Wz,AF,It,ldw,bl,hms,Qa,Qb,Qc,Qd,Qe,Qf,Qg,Qh,Qi,Qj,Qk,Ql,Qm,Qn,true_and,and_true,Qo,Qp,Qq,Qr,Qs,Qt,Qu,Qv,Qw,Qx,Qy,Qz,Ra,Rb,Rc,Rd,Re,Rf,Rg,Rh,Ri,Rj,Rk,Rl,Rm,Ya,Yb,Yc,Rn,Ro,Rp,Yd,Ye,Rq,Rs,Rt,Ru,Rv,Rw,Rx]
 refine(Fm hE (l:=y) hy).mono ?_
 rintro _ _ ⟨rfl,rfl⟩
 simp only[BP,Ap,ldw',hself,Qa,Qb,Qc,Qd,Qe,Qf,Qg,Qh,Qi,Qj,Qk,Ql,Qm,Qn,true_and,and_true,Qo,Qp,Qq,Qr,Qs,Qt,Qu,Qv,Qw,Qx,Qy,Qz,Ra,Rb,Rc,Rd,Re,Rf,Rg,Rh,Ri,Rj,Rk,Rl,Rm,Ya,Yb,Yc,Rn,Ro,Rp,Yd,Ye,Rq,Rs,Rt,Ru,Rv,Rw,Rx]
 refine(Fm hE (l:=y) hy).mono ?_
 rintro _ _ ⟨rfl,rfl⟩
 simp only[BP,Ap,ldw',hself,f1,f2,f3,ldw3,BU,f4,AX,Qa,Qb,Qc,Qd,Qe,Qf,Qg,Qh,Qi,Qj,Qk,Ql,Qm,Qn,true_and,and_true,Qo,Qp,Qq,Qr,Qs,Qt,Qu,Qv,Qw,Qx,Qy,Qz,Ra,Rb,Rc,Rd,Re,Rf,Rg,Rh,Ri,Rj,Rk,Rl,Rm,Ya,Yb,Yc,Rn,Ro,Rp,Yd,Ye,Rq,Rs,Rt,Ru,Rv,Rw,Rx]
 exact hK s4 ow' f5 ((hst.mono fun _ q=>q.elim).trans f6)
theorem Pb{E:BJ}(hE:Good E){ow:Ow}{s:AG}{p:Nat}{x:Sf}{v:Sv}(h:Ac ow s p x v){n:Nat}(hn:n<100000000)(hw:v.watches.length=2 * n+2)(hs:CD v.watches≤90000000){c:Nat}{ls:List Int}{b:Bool×Bool}(hc:v.cl c=some (ls,b))(hl:A1 n ls)(h2:2≤ls.length):
  WF E 78 [AJ p,AJ c] (fun _ s'=>∃ow',Ac ow' s' p x (Hj v c (ls.getD 0 0) (ls.getD 1 0))∧AH (Ja p) ow s ow' s') s:=by
 obtain⟨u,u1,u2,u3,u4,u5⟩:=h.lits hc
 have u4:BO ow (p,15,c) s u (A3 ls):=u4
 have ct:=u4.cut_op Try.underlying23 Be (k:=2) (by rw[kn];exact h2)
 have ct:Ai Try.prog 23 false true false s [u,iv 2]=some (FE u 2):=ct
 have cb:=u4.cut (k:=2) (by rw[kn];exact h2)
 have hg0:=AQ (d:=(0:Int)) (show 0<ls.length by omega)
 have hg1:=AQ (d:=(0:Int)) (show 1<ls.length by omega)
 have V0:=hl.get (k:=0) (by omega)
 have V1:=hl.get (k:=1) (by omega)
 generalize hy0:ls.getD 0 0=y0 at *
 generalize hy1:ls.getD 1 0=y1 at *
 have hcs:(A3 ls).take 2=[iv y0,iv y1]:=by
  match ls,hg0,hg1 with
  | a::b::l,e0,e1 =>
   have:a=y0:=by simpa using e0
   have:b=y1:=by simpa using e1
   subst y0;subst y1;rfl
 rw[hcs]at cb
 have ln:∀s,A6 Try.prog s 23 (FE u 2)=some (iv 2):=fun s=>cb.len Try.underlying23 s
 have ht:∀ (s:AG),True:=fun _=>trivial
 have hx0:∀j,j≠15→¬ Ja p ((p,15,c):BT):=fun j hj q=>by rcases q.2 with q | q<;>cases q
 have hx:¬ Ja p ((p,15,c):BT):=fun q=>by rcases q.2 with q | q<;>cases q
 refine hE.go gJ (by decide) rfl ?_
 have i0:AD Try.prog 23 (FE u 2) (iv 0)=some (Az (FE u 2) 0):=cb.addr Try.underlying23 Be (k:=0) (by show 0<2;omega)
 have i1:AD Try.prog 23 (FE u 2) (iv 1)=some (Az (FE u 2) 1):=cb.addr Try.underlying23 Be (k:=1) (by show 1<2;omega)
 have g0:=cb.get (t:=3) Df (k:=0) (u:=iv y0) rfl
 have e1:=Ao Try.prog 3 0 1 ⟨by decide,by decide⟩
 have e2:=Ao Try.prog 3 1 1 ⟨by decide,by decide⟩
 have hd0:decide ((0:Int)<2)=true:=rfl
 have NP:decide ((1:Int)<2)=true:=rfl
 have Lr:decide ((2:Int)<2)=false:=rfl
 have z1:(0:Int)+1=1:=rfl
 have z2:(1:Int)+1=2:=rfl
 rw[z1]at e1
 rw[z2]at e2
 simp only[ka,dP,AJ,AF,Cy,u1,ct,ln,Qa,Qb,Qc,Qd,Qe,Qf,Qg,Qh,Qi,Qj,Qk,Ql,Qm,Qn,true_and,and_true,Qo,Qp,Qq,Qr,Qs,Qt,Qu,Qv,Qw,Qx,Qy,Qz,Ra,Rb,Rc,Rd,Re,Rf,Rg,Rh,Ri,Rj,Rk,Rl,Rm,Ya,Yb,Yc,Rn,Ro,Rp,Yd,Ye,Rq,Rs,Rt,Ru,Rv,Rw,Rx]
 refine WC.loop' ?_
 generalize hW:WC E none (Aa.loop L7) _=W
 simp only[L7,Sk,hd0,Wy,i0,g0,Qa,Qb,Qc,Qd,Qe,Qf,Qg,Qh,Qi,Qj,Qk,Ql,Qm,Qn,true_and,and_true,Qo,Qp,Qq,Qr,Qs,Qt,Qu,Qv,Qw,Qx,Qy,Qz,Ra,Rb,Rc,Rd,Re,Rf,Rg,Rh,Ri,Rj,Rk,Rl,Rm,Ya,Yb,Yc,Rn,Ro,Rp,Yd,Ye,Rq,Rs,Rt,Ru,Rv,Rw,Rx]
 refine Pa hE h (by rw[hw];exact VL.place V0) (by have:=V0.2;omega) (CD.short (by omega)) c _ _ _ _ ?_
 intro s1 ow1 k1 k2
 have g1:=(cb.step k2 hx).get (t:=3) Df (k:=1) (u:=iv y1) rfl
 simp only[W0,e1,Qa,Qb,Qc,Qd,Qe,Qf,Qg,Qh,Qi,Qj,Qk,Ql,Qm,Qn,true_and,and_true,Qo,Qp,Qq,Qr,Qs,Qt,Qu,Qv,Qw,Qx,Qy,Qz,Ra,Rb,Rc,Rd,Re,Rf,Rg,Rh,Ri,Rj,Rk,Rl,Rm,Ya,Yb,Yc,Rn,Ro,Rp,Yd,Ye,Rq,Rs,Rt,Ru,Rv,Rw,Rx]
 rw[← hW]
 refine WC.loop' ?_
 generalize hW:WC E none (Aa.loop L7) _=W
 simp only[L7,Sk,NP,Wy,i1,g1,Qa,Qb,Qc,Qd,Qe,Qf,Qg,Qh,Qi,Qj,Qk,Ql,Qm,Qn,true_and,and_true,Qo,Qp,Qq,Qr,Qs,Qt,Qu,Qv,Qw,Qx,Qy,Qz,Ra,Rb,Rc,Rd,Re,Rf,Rg,Rh,Ri,Rj,Rk,Rl,Rm,Ya,Yb,Yc,Rn,Ro,Rp,Yd,Ye,Rq,Rs,Rt,Ru,Rv,Rw,Rx]
 have hT:=CD.put v.watches (place y0) c
 refine Pa hE k1 (by show _<(Ci _ _ _).length;rw[Cv,hw];exact VL.place V1) (by have:=V1.2;omega) (CD.short (by show CD (Ci _ _ _)≤_;omega)) c _ _ _ _ ?_
 intro s2 ow2 k3 k4
 simp only[W0,e2,Qa,Qb,Qc,Qd,Qe,Qf,Qg,Qh,Qi,Qj,Qk,Ql,Qm,Qn,true_and,and_true,Qo,Qp,Qq,Qr,Qs,Qt,Qu,Qv,Qw,Qx,Qy,Qz,Ra,Rb,Rc,Rd,Re,Rf,Rg,Rh,Ri,Rj,Rk,Rl,Rm,Ya,Yb,Yc,Rn,Ro,Rp,Yd,Ye,Rq,Rs,Rt,Ru,Rv,Rw,Rx]
 rw[← hW]
 refine WC.loop' ?_
 simp only[L7,Sk,Lr,Qa,Qb,Qc,Qd,Qe,Qf,Qg,Qh,Qi,Qj,Qk,Ql,Qm,Qn,true_and,and_true,Qo,Qp,Qq,Qr,Qs,Qt,Qu,Qv,Qw,Qx,Qy,Qz,Ra,Rb,Rc,Rd,Re,Rf,Rg,Rh,Ri,Rj,Rk,Rl,Rm,Ya,Yb,Yc,Rn,Ro,Rp,Yd,Ye,Rq,Rs,Rt,Ru,Rv,Rw,Rx]
 exact⟨ow2,k3,k2.trans k4⟩
theorem Nt{E:BJ}(hE:Good E){ow:Ow}{s:AG}{p:Nat}{x:Sf}{v:Sv}(h:Ac ow s p x v){n:Nat}(hn:n<100000000)(hv:v.value.length=n+1):WF E 47 [AJ p] (fun r s'=>r=iv (n:Int)∧s=s') s:=by
 have ln:∀s,A6 Try.prog s 23 x.val=some (iv ((n+1:Nat):Int)):=fun s=>by
  have:=h.value.len Try.underlying23 s
  rw[kn,hv]at this
  exact this
 have e:=EF Try.prog 3 ((n+1:Nat):Int) 1 ⟨by omega,by omega⟩
 have hc:(((n+1:Nat):Int) - 1)=(n:Int):=by omega
 have q:=Gb p
 simp only[AJ]at q
 refine hE.go fj (by decide) rfl ?_
 simp only[kL,bc,bf,bh,AJ,q,AF,ET,h.ld_val,ln,e,hc,Qa,Qb,Qc,Qd,Qe,Qf,Qg,Qh,Qi,Qj,Qk,Ql,Qm,Qn,true_and,and_true,Qo,Qp,Qq,Qr,Qs,Qt,Qu,Qv,Qw,Qx,Qy,Qz,Ra,Rb,Rc,Rd,Re,Rf,Rg,Rh,Ri,Rj,Rk,Rl,Rm,Ya,Yb,Yc,Rn,Ro,Rp,Yd,Ye,Rq,Rs,Rt,Ru,Rv,Rw,Rx]
theorem Us(a:Int):∃c,AM Try.prog .quo 3 (iv a) (iv 2)=some (iv c):=by
 refine⟨IntKind.i64.wrap (a.tdiv 2),?_⟩
 show AI (Bb .i64 .i64) ((EX Try.prog (Op.intDiv .quo .i64 a 2)).bind ofValue)=_
 have hk:Bb .i64 .i64=true:=rfl
 rw[hk]
 unfold Op.intDiv
 rw[if_neg (by decide)]
 rfl
theorem N3(a b:Int):AM Try.prog .add 3 (iv a) (iv b)=some (iv (DZ .i64 (a+b))):=rfl
def At(v:Sv)(h:List Int):Sv:={ v with heat:=h }
theorem TZ{E:BJ}(hE:Good E){p N:Nat}(hN:N<1000000000){ow:Ow}{s0:AG}{x:Sf}{v0:Sv}{Q:Ar→Prop}(hq:∀s' h' y1 y3 y4,Ac ow s' p x (At v0 h')→h'.length=N→AH (BI p) ow s0 ow s'→Q ⟨.exit 0,[AV.ptr (some (p,0)),y1,iv (N:Int),y3,y4],[],s'⟩):
  ∀ (m k:Nat) (s:AG) (h:List Int) (x1 x4:AV),N - k=m→k≤N→Ac ow s p x (At v0 h)→h.length=N→AH (BI p) ow s0 ow s→WC E none (.loop OF) Q [AV.ptr (some (p,0)),x1,iv (N:Int),iv (k:Int),x4] [] s:=by
 intro m
 induction m with
 | zero =>
  intro k s h x1 x4 hm hk hs hl hst
  have hk:k=N:=by omega
  subst hk
  refine WC.loop' ?_
  simp only[OF,Wq,lT,decide_false,Qa,Qb,Qc,Qd,Qe,Qf,Qg,Qh,Qi,Qj,Qk,Ql,Qm,Qn,true_and,and_true,Qo,Qp,Qq,Qr,Qs,Qt,Qu,Qv,Qw,Qx,Qy,Qz,Ra,Rb,Rc,Rd,Re,Rf,Rg,Rh,Ri,Rj,Rk,Rl,Rm,Ya,Yb,Yc,Rn,Ro,Rp,Yd,Ye,Rq,Rs,Rt,Ru,Rv,Rw,Rx]
  exact hq s h _ _ _ hs hl hst
 | succ m ih =>
  intro k s h x1 x4 hm hk hs hl hst
  have hlt:k<N:=by omega
  have hd:decide ((k:Int)<(N:Int))=true:=decide_eq_true (by omega)
  have e3:=Ao Try.prog 3 (k:Int) 1 ⟨by omega,by omega⟩
  have hcast:((k:Int)+1)=((k+1:Nat):Int):=by omega
  have hg:=AQ (d:=(0:Int)) (show k<h.length by omega)
  have i1:=hs.heat.addr Try.underlying23 Be (k:=k) (by rw[kn];show k<h.length;omega)
  have i2:=hs.heat.get (t:=3) Df (k:=k) (Av hg)
  obtain⟨c,hc⟩:=Us (h.getD k 0)
  obtain⟨s1,a1,a2,a3,a4⟩:=hs.put_heat (k:=k) (by show k<h.length;omega) c
  refine WC.loop' ?_
  generalize hW:WC E none (Aa.loop OF) Q=W
  simp only[OF,Wq,hd,cg,ck,AF,Kr,hs.ld_heat,i1,i2,hc,BU,a1,AX,cm,e3,hcast,Qa,Qb,Qc,Qd,Qe,Qf,Qg,Qh,Qi,Qj,Qk,Ql,Qm,Qn,true_and,and_true,Qo,Qp,Qq,Qr,Qs,Qt,Qu,Qv,Qw,Qx,Qy,Qz,Ra,Rb,Rc,Rd,Re,Rf,Rg,Rh,Ri,Rj,Rk,Rl,Rm,Ya,Yb,Yc,Rn,Ro,Rp,Yd,Ye,Rq,Rs,Rt,Ru,Rv,Rw,Rx]
  rw[← hW]
  exact ih (k+1) s1 (h.set k c) _ _ (by omega) (by omega) a2 (by rw[kv];exact hl) (hst.trans a3)
theorem Sr{E:BJ}(hE:Good E){ow:Ow}{s:AG}{p:Nat}{x:Sf}{v:Sv}(h:Ac ow s p x v)(hl:v.heat.length<1000000000):
  WF E 68 [AJ p] (fun _ s'=>∃h',Ac ow s' p x (At v h')∧h'.length=v.heat.length∧AH (BI p) ow s ow s') s:=by
 have ln:∀s,A6 Try.prog s 23 x.heat=some (iv (v.heat.length:Int)):=fun s=>by
  have:=h.heat.len Try.underlying23 s
  rw[kn]at this
  exact this
 refine hE.go gA (by decide) rfl ?_
 simp only[kT,ce,AJ,AF,Kr,h.ld_heat,ln,Qa,Qb,Qc,Qd,Qe,Qf,Qg,Qh,Qi,Qj,Qk,Ql,Qm,Qn,true_and,and_true,Qo,Qp,Qq,Qr,Qs,Qt,Qu,Qv,Qw,Qx,Qy,Qz,Ra,Rb,Rc,Rd,Re,Rf,Rg,Rh,Ri,Rj,Rk,Rl,Rm,Ya,Yb,Yc,Rn,Ro,Rp,Yd,Ye,Rq,Rs,Rt,Ru,Rv,Rw,Rx]
 refine TZ hE hl (s0:=s) (v0:=v) ?_ _ 0 s v.heat _ _ rfl (ku _) h rfl (AH.refl _ _ _)
 intro s' h' y1 y3 y4 k1 k2 k3
 simp only[if_true,Qa,Qb,Qc,Qd,Qe,Qf,Qg,Qh,Qi,Qj,Qk,Ql,Qm,Qn,true_and,and_true,Qo,Qp,Qq,Qr,Qs,Qt,Qu,Qv,Qw,Qx,Qy,Qz,Ra,Rb,Rc,Rd,Re,Rf,Rg,Rh,Ri,Rj,Rk,Rl,Rm,Ya,Yb,Yc,Rn,Ro,Rp,Yd,Ye,Rq,Rs,Rt,Ru,Rv,Rw,Rx]
 exact⟨h',k1,k2,k3⟩
theorem Tp{E:BJ}(hE:Good E){ow:Ow}{s:AG}{p:Nat}{x:Sf}{v:Sv}(h:Ac ow s p x v){bb sb:Nat}{best k:Nat}(h1:Ak s sb (AJ p))(h2:Ak s bb (iv (best:Int)))(hb:best<v.heat.length)(hk:k<v.heat.length):
  WF E 99 [iv (k:Int),.ptr (some (bb,0)),.ptr (some (sb,0))] (fun r s'=>(∃t:Bool,r=.bool t∧(best=0→t=true))∧s=s') s:=by
 have hg:=AQ (d:=(0:Int)) hk
 have hgb:=AQ (d:=(0:Int)) hb
 have i1:=h.heat.addr Try.underlying23 Be (k:=k) (by rw[kn];exact hk)
 have i2:=h.heat.get (t:=3) Df (k:=k) (Av hg)
 have j1:=h.heat.addr Try.underlying23 Be (k:=best) (by rw[kn];exact hb)
 have j2:=h.heat.get (t:=3) Df (k:=best) (Av hgb)
 have l1:=h1.load Dg
 simp only[AJ]at l1
 refine hE.go gV (by decide) rfl ?_
 by_cases he:best=0
 ·have hd:decide ((best:Int)=0)=true:=decide_eq_true (by omega)
  simp only[jw,XO,XP,h2.load Df,hd,Qa,Qb,Qc,Qd,Qe,Qf,Qg,Qh,Qi,Qj,Qk,Ql,Qm,Qn,true_and,and_true,Qo,Qp,Qq,Qr,Qs,Qt,Qu,Qv,Qw,Qx,Qy,Qz,Ra,Rb,Rc,Rd,Re,Rf,Rg,Rh,Ri,Rj,Rk,Rl,Rm,Ya,Yb,Yc,Rn,Ro,Rp,Yd,Ye,Rq,Rs,Rt,Ru,Rv,Rw,Rx]
  exact⟨true,rfl,fun _=>rfl⟩
 ·have hd:decide ((best:Int)=0)=false:=decide_eq_false (by omega)
  simp only[jw,XO,XP,h2.load Df,hd,l1,AF,Kr,h.ld_heat,i1,i2,j1,j2,Qa,Qb,Qc,Qd,Qe,Qf,Qg,Qh,Qi,Qj,Qk,Ql,Qm,Qn,true_and,and_true,Qo,Qp,Qq,Qr,Qs,Qt,Qu,Qv,Qw,Qx,Qy,Qz,Ra,Rb,Rc,Rd,Re,Rf,Rg,Rh,Ri,Rj,Rk,Rl,Rm,Ya,Yb,Yc,Rn,Ro,Rp,Yd,Ye,Rq,Rs,Rt,Ru,Rv,Rw,Rx]
  exact⟨_,rfl,fun q=>absurd q he⟩
theorem SW:Bv Try.prog 3=some (AO 3 0 [.int .i64 0],.ptr):=by simp[Bv,Pd,AV.cells]
def Ug(val:List Int)(k:Nat)(b:Nat):Prop:=(b=0∧∀j,1≤j→j<k→val.getD j 0≠0)∨(1≤b∧b<val.length∧val.getD b 0=0)
theorem T3        {E : BJ}  (hE : Good E) {p n : Nat} (hn : n < 100000000) {ow : Ow} {s0 : AG}  {x : Sf} {v : Sv} (h : Ac  ow s0 p x v) (hval : v.value.length = n + 1) (hheat : v.heat.length = n + 1) {sb bb : Nat} (hsb : s0.next ≤ sb) (hbb : s0.next ≤ bb) (hne : bb ≠ sb) {Q : Ar   → Prop}
    (hq:∀s' (b:Nat) y2 y5 y6 y7,B6 s0.next s0 s'→Ak s' bb (iv (b:Int))→Ug v.value (n+1) b→Q ⟨.exit 0,[AV.ptr (some (p,0)),.ptr (some (sb,0)),y2,.ptr (some (bb,0)),.func 99 [] [.ptr (some (bb,0)),.ptr (some (sb,0))],y5,y6,y7],[],s'⟩):
    ∀ (m k:Nat) (s:AG) (b:Nat) (x2 x6 x7:AV),n+1 - k=m→1≤k→k≤n+1→B6 s0.next s0 s→Ak s sb (AJ p)→Ak s bb (iv (b:Int))→Ug v.value k b →
      WC E none (.loop L6) Q [AV.ptr (some (p,0)),.ptr (some (sb,0)),x2,.ptr (some (bb,0)),.func 99 [] [.ptr (some (bb,0)),.ptr (some (sb,0))],iv (k:Int),x6,x7] [] s:=by
  intro m
  induction m with
  | zero =>
    intro k s b x2 x6 x7 hm hk1 hk ho b1 b2 hr
    have hk:k=n+1:=by omega
    subst hk
    have h':=h.keep (AH.old (m:=fun _=>False) ho (0,0,0)) (fun _ q=>q.elim)
    have l1:=b1.load Dg
    simp only[AJ]at l1
    have ln:∀s,A6 Try.prog s 23 x.val=some (iv ((n+1:Nat):Int)):=fun s=>by
      have:=h.value.len Try.underlying23 s
      rw[kn,hval]at this
      exact this
    refine WC.loop' ?_
    simp only[L6,Si,l1,AF,ET,h'.ld_val,ln,lT,decide_false,Qa,Qb,Qc,Qd,Qe,Qf,Qg,Qh,Qi,Qj,Qk,Ql,Qm,Qn,true_and,and_true,Qo,Qp,Qq,Qr,Qs,Qt,Qu,Qv,Qw,Qx,Qy,Qz,Ra,Rb,Rc,Rd,Re,Rf,Rg,Rh,Ri,Rj,Rk,Rl,Rm,Ya,Yb,Yc,Rn,Ro,Rp,Yd,Ye,Rq,Rs,Rt,Ru,Rv,Rw,Rx]
    exact hq s b _ _ _ _ ho b2 hr
  | succ m ih =>
    intro k s b x2 x6 x7 hm hk1 hk ho b1 b2 hr
    have hlt:k<n+1:=by omega
    have h':=h.keep (AH.old (m:=fun _=>False) ho (0,0,0)) (fun _ q=>q.elim)
    have l1:=b1.load Dg
    simp only[AJ]at l1
    have ln:∀s,A6 Try.prog s 23 x.val=some (iv ((n+1:Nat):Int)):=fun s=>by
      have:=h.value.len Try.underlying23 s
      rw[kn,hval]at this
      exact this
    have hd:decide ((k:Int)<((n+1:Nat):Int))=true:=decide_eq_true (by omega)
    have e3:=Ao Try.prog 3 (k:Int) 1 ⟨by omega,by omega⟩
    have hcast:((k:Int)+1)=((k+1:Nat):Int):=by omega
    have hg:=AQ (d:=(0:Int)) (show k<v.value.length by omega)
    have i1:=h'.value.addr Try.underlying23 Be (k:=k) (by rw[kn];omega)
    have i2:=h'.value.get (t:=3) Df (k:=k) (Av hg)
    have hbl:b<v.heat.length:=by rcases hr with⟨q,_⟩ | ⟨_,q,_⟩<;>omega
    refine WC.loop' ?_
    generalize hW:WC E none (Aa.loop L6) Q=W
    by_cases h0:v.value.getD k 0=0
    · have hd0:decide (v.value.getD k 0=0)=true:=decide_eq_true h0
      simp only[L6,Si,l1,AF,ET,h'.ld_val,ln,hd,Wt,i1,i2,hd0,Qa,Qb,Qc,Qd,Qe,Qf,Qg,Qh,Qi,Qj,Qk,Ql,Qm,Qn,true_and,and_true,Qo,Qp,Qq,Qr,Qs,Qt,Qu,Qv,Qw,Qx,Qy,Qz,Ra,Rb,Rc,Rd,Re,Rf,Rg,Rh,Ri,Rj,Rk,Rl,Rm,Ya,Yb,Yc,Rn,Ro,Rp,Yd,Ye,Rq,Rs,Rt,Ru,Rv,Rw,Rx]
      refine(Tp hE h' b1 b2 hbl (k:=k) (by omega)).mono ?_
      rintro _ _ ⟨⟨t,rfl,ht⟩,rfl⟩
      cases t with
      | true =>
        obtain⟨s1,a1,a2,a3,a4⟩:=b2.store (d:=iv (k:Int)) Be rfl rfl
        simp only[c7,BU,a1,AX,Sj,e3,hcast,Qa,Qb,Qc,Qd,Qe,Qf,Qg,Qh,Qi,Qj,Qk,Ql,Qm,Qn,true_and,and_true,Qo,Qp,Qq,Qr,Qs,Qt,Qu,Qv,Qw,Qx,Qy,Qz,Ra,Rb,Rc,Rd,Re,Rf,Rg,Rh,Ri,Rj,Rk,Rl,Rm,Ya,Yb,Yc,Rn,Ro,Rp,Yd,Ye,Rq,Rs,Rt,Ru,Rv,Rw,Rx]
        rw[← hW]
        refine ih (k+1) s1 k _ _ _ (by omega) (by omega) (by omega) ⟨by have:=ho.1;omega,fun y hy=>?_⟩ (b1.keep (a4 sb (fun e=>hne e.symm))) a2 (.inr ⟨hk1,by omega,h0⟩)
        rw[a4 y (by omega)]
        exact ho.2 y hy
      | false =>
        simp only[Sj,e3,hcast,Qa,Qb,Qc,Qd,Qe,Qf,Qg,Qh,Qi,Qj,Qk,Ql,Qm,Qn,true_and,and_true,Qo,Qp,Qq,Qr,Qs,Qt,Qu,Qv,Qw,Qx,Qy,Qz,Ra,Rb,Rc,Rd,Re,Rf,Rg,Rh,Ri,Rj,Rk,Rl,Rm,Ya,Yb,Yc,Rn,Ro,Rp,Yd,Ye,Rq,Rs,Rt,Ru,Rv,Rw,Rx]
        rw[← hW]
        have hb0:b≠0:=fun e=>by have:=ht e;cases this
        refine ih (k+1) s b _ _ _ (by omega) (by omega) (by omega) ho b1 b2 ?_
        rcases hr with⟨q,_⟩ | q
        · exact absurd q hb0
        · exact .inr q
    · have hd0:decide (v.value.getD k 0=0)=false:=decide_eq_false h0
      simp only[L6,Si,l1,AF,ET,h'.ld_val,ln,hd,Wt,i1,i2,hd0,Sj,e3,hcast,Qa,Qb,Qc,Qd,Qe,Qf,Qg,Qh,Qi,Qj,Qk,Ql,Qm,Qn,true_and,and_true,Qo,Qp,Qq,Qr,Qs,Qt,Qu,Qv,Qw,Qx,Qy,Qz,Ra,Rb,Rc,Rd,Re,Rf,Rg,Rh,Ri,Rj,Rk,Rl,Rm,Ya,Yb,Yc,Rn,Ro,Rp,Yd,Ye,Rq,Rs,Rt,Ru,Rv,Rw,Rx]
      rw[← hW]
      refine ih (k+1) s b _ _ _ (by omega) (by omega) (by omega) ho b1 b2 ?_
      rcases hr with⟨q,q'⟩ | q
      · refine .inl ⟨q,fun j hj1 hj2=>?_⟩
        by_cases e:j=k
        · rw[e];exact h0
        · exact q' j hj1 (by omega)
      · exact .inr q
theorem S7{E:BJ}(hE:Good E){ow:Ow}{s:AG}{p:Nat}{x:Sf}{v:Sv}(h:Ac ow s p x v){n:Nat}(hn:n<100000000)(hval:v.value.length=n+1)(hheat:v.heat.length=n+1):
  WF E 70 [AJ p] (fun r s'=>∃ (b:Nat) (ow':Ow),r=iv (b:Int)∧Ug v.value (n+1) b∧Ac ow' s' p x v∧AH (BI p) ow s ow' s') s:=by
 have hptr:∀i,Made.val i .ptr=.ptr (some (i,0)):=fun _=>rfl
 have hbox:DD 44 (AV.ptr (some (p,0)))=some (AO 44 0 [AJ p],.ptr):=by simp[DD,AJ,AV.cells]
 refine hE.go gB (by decide) rfl ?_
 generalize hs1:newObj s (AO 44 0 [AJ p])=s1
 have n1:s1.next=s.next+1:=by rw[← hs1];rfl
 have o1:B6 s.next s s1:=by rw[← hs1];exact B6.new s _
 have b1:Ak s1 s.next (AJ p):=by rw[← hs1];exact Ak.new
 generalize hs2:newObj s1 (AO 3 0 [.int .i64 0])=s2
 have n2:s2.next=s.next+2:=by rw[← hs2];show s1.next+1=_;omega
 have o2:B6 (s.next+1) s1 s2:=by rw[← hs2,← n1];exact B6.new s1 _
 have b2:Ak s2 (s.next+1) (.int .i64 0):=by rw[← hs2,← n1];exact Ak.new
 obtain⟨s3,a1,a2,a3,a4⟩:=b2.store (d:=iv 0) Be rfl rfl
 have b1':Ak s3 s.next (AJ p):=(b1.keep (o2.2 _ (by omega))).keep (a4 _ (by omega))
 have o3:B6 s.next s s3:=(o1.trans (o2.mono (by omega))).trans ⟨by omega,fun y hy=>a4 y (by omega)⟩
 simp only[AJ]at hs1 hbox
 simp only[kU,cv,cy,cz,c6,AJ,hbox,hs1,hptr,SW,hs2,n1,BU,a1,AX,mC,lq,Qa,Qb,Qc,Qd,Qe,Qf,Qg,Qh,Qi,Qj,Qk,Ql,Qm,Qn,true_and,and_true,Qo,Qp,Qq,Qr,Qs,Qt,Qu,Qv,Qw,Qx,Qy,Qz,Ra,Rb,Rc,Rd,Re,Rf,Rg,Rh,Ri,Rj,Rk,Rl,Rm,Ya,Yb,Yc,Rn,Ro,Rp,Yd,Ye,Rq,Rs,Rt,Ru,Rv,Rw,Rx]
 refine T3 hE hn h hval hheat (sb:=s.next) (bb:=s.next+1) (by omega) (by omega) (by omega) ?_ n 1 s3 0 _ _ _ (by omega) (by omega) (by omega) o3 b1' a2 (.inl ⟨rfl,fun j h1 h2=>absurd h1 (by omega)⟩)
 intro s' b y2 y5 y6 y7 k1 k2 k3
 simp only[if_true,c8,k2.load Df,Qa,Qb,Qc,Qd,Qe,Qf,Qg,Qh,Qi,Qj,Qk,Ql,Qm,Qn,true_and,and_true,Qo,Qp,Qq,Qr,Qs,Qt,Qu,Qv,Qw,Qx,Qy,Qz,Ra,Rb,Rc,Rd,Re,Rf,Rg,Rh,Ri,Rj,Rk,Rl,Rm,Ya,Yb,Yc,Rn,Ro,Rp,Yd,Ye,Rq,Rs,Rt,Ru,Rv,Rw,Rx]
 exact⟨b,_,rfl,k3,h.keep (AH.old (m:=fun _=>False) k1 (0,0,0)) (fun _ q=>q.elim),AH.old k1 _⟩
end
end Go.Proofs.Ytilhhmkdcoajnaa.Am
