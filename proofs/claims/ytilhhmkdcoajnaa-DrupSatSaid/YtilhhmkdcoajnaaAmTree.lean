/- Binary tries over Nat keys, made for evaluation by the kernel: get, set, and their laws; conditions: none. -/
namespace Go.Proofs.Ytilhhmkdcoajnaa.Am
noncomputable section
abbrev oD := @Nat.le_refl
abbrev oE := @Option.bind_eq_some_iff
abbrev oF := @List.length_map
abbrev oG := @List.mem_of_getElem?
abbrev oH := @List.mem_cons_self
abbrev oI := @Nat.lt_or_ge
abbrev oJ := @List.mem_cons_of_mem
abbrev oK := @Nat.zero_le
abbrev oL := @List.length_append
abbrev oM := @List.getElem?_eq_getElem
abbrev oN := @Nat.zero_add
abbrev oO := @List.length_set
abbrev oP := @List.mem_append_left
abbrev oQ := @Nat.ble_eq
abbrev oR := @List.getElem?_append_left
abbrev oS := @Nat.le_trans
abbrev oT := @List.getElem?_append_right
abbrev oU := @List.getElem?_set
abbrev oV := @Nat.mul_one
abbrev oW := @List.mem_of_mem_take
abbrev oX := @Int.neg_neg
abbrev oY := @Int.natAbs_neg
abbrev oZ := @List.length_cons
abbrev oe := @List.getElem?_eq_none
abbrev og := @List.getD_eq_getElem?_getD
abbrev oh := @Nat.lt_of_lt_of_le
abbrev ol := @List.mem_append_right
abbrev om := @Int.lt_irrefl
abbrev oq := @Nat.blt_eq
abbrev ou := @List.length_take
abbrev ov := @List.mem_cons
abbrev oz := @List.nil_append
abbrev pA := @List.take_append_of_le_length
abbrev pB := @List.map_append
abbrev pC := @Nat.add_mul
abbrev pD := @List.getElem?_drop
abbrev pE := @List.foldl_cons
abbrev pF := @Nat.lt_succ_self
abbrev pG := @List.take_length
abbrev pH := @List.length_nil
abbrev pI := @Nat.eq_of_beq_eq_true
abbrev pJ := @Nat.add_assoc
abbrev pK := @List.length_drop
abbrev pL := @List.getElem?_map
abbrev pM := @Int.le_refl
abbrev pN := @List.getElem?_take_of_lt
abbrev pO := @Nat.eq_zero_or_pos
abbrev pP := @List.drop_zero
abbrev pQ := @List.append_nil
abbrev pR := @List.map_cons
abbrev pS := @List.append_assoc
abbrev pT := @Nat.mul_le_mul_right
abbrev pU := @List.take_zero
abbrev pV := @List.nodup_append
abbrev pW := @List.cons_append
abbrev pX := @Nat.sub_self
abbrev pY := @Nat.lt_trichotomy
abbrev pZ := @List.drop_drop
abbrev pc := @List.filter_cons_of_pos
abbrev pe := @List.map_set
abbrev pf := @List.map_take
abbrev pg := @List.mem_append
abbrev pi := @List.getElem_of_mem
abbrev pj := @Nat.min_eq_left
abbrev pk := @Nat.lt_succ_of_lt
abbrev pl := @List.getElem?_take
abbrev pm := @List.mem_iff_getElem
abbrev pn := @List.take_succ_eq_append_getElem
abbrev po := @List.drop_eq_nil_of_le
abbrev pp := @List.take_append_drop
abbrev pq := @List.filter_cons_of_neg
abbrev pr := @List.mem_or_eq_of_mem_set
abbrev pt := @List.nodup_cons
abbrev pu := @List.length_replicate
abbrev pw := @List.take_of_length_le
abbrev px := @Nat.mul_le_mul_left
abbrev pz := @List.drop_eq_getElem_cons
abbrev p7 := @List.mem_of_mem_drop
abbrev p8 := @List.drop_of_length_le
inductive Aj (α:Type) where
  | leaf
  | node (v:Option α) (l r:Aj α)
namespace Aj
variable{α:Type}
def get:Aj α→Nat→Option α
  | .leaf,_=>none
  | .node v l r,k=>match k with
    | 0=>v
    | k+1=>bif Nat.beq (k % 2) 0 then l.get (k / 2)else r.get (k / 2)
def val:Aj α→Option α
  | .leaf=>none
  | .node v _ _=>v
def left:Aj α→Aj α
  | .leaf=>.leaf
  | .node _ l _=>l
def right:Aj α→Aj α
  | .leaf=>.leaf
  | .node _ _ r=>r
def ik(v:Option α)(l r:Aj α):Aj α:=
  match l with
  | .leaf=>.node v .leaf r
  | .node x a b=>.node v (.node x a b) r
def il(v:Option α)(l r:Aj α):Aj α:=
  match r with
  | .leaf=>.node v l .leaf
  | .node x a b=>.node v l (.node x a b)
def Pn(v:Option α):Nat→Aj α→Nat→Aj α
  | 0,t,_=>t
  | f+1,t,k=>match k with
    | 0=>.node v t.left t.right
    | k+1=>bif Nat.beq (k % 2) 0 then ik t.val (Pn v f t.left (k / 2)) t.right
      else il t.val t.left (Pn v f t.right (k / 2))
def put(t:Aj α)(k:Nat)(v:Option α):Aj α:=Pn v (k+1) t k
def set(t:Aj α)(k:Nat)(v:α):Aj α:=t.put k (some v)
def del(t:Aj α)(k:Nat):Aj α:=t.put k none
theorem beq_no{a b:Nat}(h:¬ a=b):Nat.beq a b=false:=by
  cases e:Nat.beq a b with
  | false=>rfl
  | true=>exact absurd (pI e) h
theorem Zv(v:Option α)(l r:Aj α):ik v l r=.node v l r:=by cases l<;>rfl
theorem Zw(v:Option α)(l r:Aj α):il v l r=.node v l r:=by cases r<;>rfl
theorem LK(t:Aj α):t.get 0=t.val:=by cases t<;>rfl
theorem Dp(t:Aj α)(k:Nat):t.get (k+1)=if k % 2=0 then t.left.get (k / 2)else t.right.get (k / 2):=by
  cases t with
  | leaf=>simp[get,left,right]
  | node v l r =>
    by_cases h:k % 2=0
    · simp[get,left,h]
    · have:Nat.beq (k % 2) 0=false:=beq_no h
      simp[get,right,h,this]
theorem ZS       (v : Option α) : ∀ (f : Nat) (t : Aj   α) (k j : Nat), k < f → (Pn   v f t k).get j = if j = k then v else t.get j := by
  intro f
  induction f with
  | zero=>intro t k j h;omega
  | succ f ih =>
    intro t k j h
    cases k with
    | zero =>
      cases j with
      | zero=>simp[Pn,LK,val]
      | succ j=>simp[Pn,Dp,left,right]
    | succ k =>
      by_cases hk:k % 2=0
      · have hb:Nat.beq (k % 2) 0=true:=by rw[hk];rfl
        simp only[Pn,hb,cond_true,Zv]
        cases j with
        | zero=>simp[LK,val]
        | succ j =>
          by_cases hj:j % 2=0
          · rw[Dp,Dp,if_pos hj,if_pos hj]
            simp only[left]
            rw[ih _ _ _ (by omega)]
            by_cases e:j=k
            · subst e;simp
            · rw[if_neg (by omega),if_neg (by omega)]
          · rw[Dp,Dp,if_neg hj,if_neg hj,if_neg (by omega)]
            simp only[right]
      · have hb:Nat.beq (k % 2) 0=false:=beq_no hk
        simp only[Pn,hb,cond_false,Zw]
        cases j with
        | zero=>simp[LK,val]
        | succ j =>
          by_cases hj:j % 2=0
          · rw[Dp,Dp,if_pos hj,if_pos hj,if_neg (by omega)]
            simp only[left]
          · rw[Dp,Dp,if_neg hj,if_neg hj]
            simp only[right]
            rw[ih _ _ _ (by omega)]
            by_cases e:j=k
            · subst e;simp
            · rw[if_neg (by omega),if_neg (by omega)]
theorem Tq(t:Aj α)(k j:Nat)(v:Option α):(t.put k v).get j=if j=k then v else t.get j:=ZS v _ t k j (by omega)
theorem get_set(t:Aj α)(k j:Nat)(v:α):(t.set k v).get j=if j=k then some v else t.get j:=Tq t k j _
theorem get_del(t:Aj α)(k j:Nat):(t.del k).get j=if j=k then none else t.get j:=Tq t k j _
def fill(t:Aj α)(k:Nat):List α→Aj α
  | []=>t
  | v::l=>fill (t.set k v) (k+1) l
theorem get_fill(l:List α):∀ (t:Aj α)(k j:Nat),(t.fill k l).get j=if k≤j∧j<k+l.length then l[j - k]? else t.get j:=by
  induction l with
  | nil=>intro t k j;simp[fill];omega
  | cons v l ih =>
    intro t k j
    simp only[fill,ih,get_set,oZ]
    by_cases h1:k+1≤j∧j<k+1+l.length
    · rw [if_pos h1, if_pos (by omega), show j - k = (j - (k + 1)) + 1 from by omega]
      rfl
    · rw[if_neg h1]
      by_cases h2:j=k
      · subst h2;simp
      · rw[if_neg h2,if_neg (by omega)]
def take(t:Aj α)(k:Nat):Nat→Option (List α)
  | 0=>some []
  | n+1=>match t.get k with
    | none=>none
    | some v=>match take t (k+1) n with
      | none=>none
      | some l=>some (v::l)
theorem take_length{t:Aj α}{k n:Nat}{l:List α}(h:t.take k n=some l):l.length=n:=by
  induction n generalizing k l with
  | zero=>simp[take]at h;subst h;rfl
  | succ n ih =>
    simp only[take]at h
    split at h
    · cases h
    · split at h
      · cases h
      · rename_i h2;injection h with h;subst h;simp[ih h2]
theorem take_get {t : Aj   α} {k n : Nat} {l : List α} (h : t.take k n = some l) (j : Nat) (hj : j < n) : t.get (k + j) = l[j]? := by
  induction n generalizing k l j with
  | zero=>omega
  | succ n ih =>
    simp only[take]at h
    split at h
    · cases h
    · rename_i v hv
      split at h
      · cases h
      · rename_i l' h2
        injection h with h
        subst h
        cases j with
        | zero=>simpa using hv
        | succ j=>rw[show k+(j+1)=k+1+j from by omega,ih h2 j (by omega)];rfl
end Aj
end
end Go.Proofs.Ytilhhmkdcoajnaa.Am
