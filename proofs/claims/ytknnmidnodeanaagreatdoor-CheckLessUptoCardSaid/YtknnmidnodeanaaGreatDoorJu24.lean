import Derived.Test.YtknnmidnodeanaaGreatDoorJu23
set_option maxHeartbeats 16000000
set_option maxRecDepth 100000
namespace Go.Proofs.YtknnmidnodeanaaGreatDoor
open Go Go.RowKit Own
open Go.Lib (hid)
attribute [local go_sem] Oper.semAt_some
theorem foldF_cons (cs:List Gc)(s:Sc)(x:Gs)(l:List Gs):CK cs s (x::l)=(match stF cs s x with | .error f=>(.error f:Except Fl Sc) | .ok s'=>CK cs s' l):=rfl
theorem foldF_app (cs:List Gc):∀(a b:List Gs) (s:Sc),CK cs s (a++b)=(match CK cs s a with | .error f=>(.error f:Except Fl Sc) | .ok s'=>CK cs s' b)
 |[],b,s=>rfl
 | x::a,b,s=>by
  rw[List.cons_append,foldF_cons,foldF_cons]
  cases stF cs s x with
  |error f=>rfl
  |ok s'=>exact foldF_app cs a b s'
theorem stF_mk (cs:List Gc)(s:Sc)(k:Int)(nm:List UInt8)(sz op:Int)(val into cont:List UInt8)(xs:List Gx)(thn els:List Gs)(l c:Int):
  stF cs s (.mk k nm sz op val into cont xs thn els l c)=match exFL s xs with
   |some f=>.error f
   | none=>
    if k=1∨k=2 then DZ cs s k sz l c nm
    else if k=3 then (if told s nm≠1 then .error ⟨6,l,c⟩ else .ok s)
    else if k=4 then (if told s nm≠2 then .error ⟨6,l,c⟩ else .ok s)
    else if k=9 then clF cs s op l c val into cont
    else .ok s:=rfl
theorem flatL_app:∀a b:List Gs,CI (a++b)=CI a++CI b
 | [],b=>by
  have h:CI []=[]:=by unfold CI;rfl
  rw[List.nil_append,h,List.nil_append]
 | x::a,b=>by
  have h:∀l,CI (x::l)=flat x++CI l:=fun l=>by conv=>lhs;unfold CI
  rw[List.cons_append,h,h,flatL_app a b,List.append_assoc]
theorem flatL_one (x:Gs):CI [x]=flat x:=by
 unfold CI;unfold CI;simp
theorem flatL_take {l:List Gs}{i:Nat}(h:i<l.length):CI (l.take (i+1))=CI (l.take i)++flat l[i]:=by
 rw[List.take_succ_eq_append_getElem h,flatL_app,flatL_one]
theorem flat_mk (k:Int)(nm:List UInt8)(sz op:Int)(val into cont:List UInt8)(xs:List Gx)(thn els:List Gs)(l c:Int):
  flat (.mk k nm sz op val into cont xs thn els l c)=.mk k nm sz op val into cont xs thn els l c::(CI thn++CI els):=by conv=>lhs;unfold flat
theorem foldF_flat (cs:List Gc)(s:Sc)(k:Int)(nm:List UInt8)(sz op:Int)(val into cont:List UInt8)(xs:List Gx)(thn els:List Gs)(l c:Int):
  CK cs s (flat (.mk k nm sz op val into cont xs thn els l c))=match stF cs s (.mk k nm sz op val into cont xs thn els l c) with
   |.error f=>.error f
   | .ok s1=>match CK cs s1 (CI thn) with
    |.error f=>.error f
    |.ok s2=>CK cs s2 (CI els):=by
 rw[flat_mk];rw[foldF_cons]
 cases stF cs s (.mk k nm sz op val into cont xs thn els l c) with
 |error f=>rfl
 |ok s1=>exact foldF_app cs _ _ s1
theorem foldF_hit (cs:List Gc){s s1:Sc}{l:List Gs}{i:Nat}{f:Fl}(h:i<l.length)(h0:CK cs s (CI (l.take i))=.ok s1)(h1:CK cs s1 (flat l[i])=.error f):CK cs s (CI l)=.error f:=by
 have h2:CK cs s (CI (l.take (i+1)))=.error f:=by rw[flatL_take h,foldF_app,h0];exact h1
 have h3:CI l=CI (l.take (i+1))++CI (l.drop (i+1)):=by rw[←flatL_app,List.take_append_drop]
 rw[h3,foldF_app,h2]
theorem foldF_next (cs:List Gc){s s1 s2:Sc}{l:List Gs}{i:Nat}(h:i<l.length)(h0:CK cs s (CI (l.take i))=.ok s1)(h1:CK cs s1 (flat l[i])=.ok s2):CK cs s (CI (l.take (i+1)))=.ok s2:=by
 rw[flatL_take h,foldF_app,h0];exact h1
theorem tellF_calls {cs:List Gc}{s s':Sc}{k sz l c:Int}{nm:List UInt8}(h:DZ cs s k sz l c nm=.ok s'):s'.calls=s.calls:=by
 unfold DZ at h;split at h
 ·cases h
 ·split at h
  ·split at h
   ·cases h
   ·cases h;rfl
  ·split at h
   ·cases h
   ·split at h
    ·cases h
    ·cases h;rfl
theorem callF_calls {cs:List Gc}{s s':Sc}{op l c:Int}{val into cont:List UInt8}(h:clF cs s op l c val into cont=.ok s'):s'.calls=s.calls+1:=by
 unfold clF at h;split at h
 ·cases h
 ·split at h
  ·cases h
  ·split at h
   ·cases h
   ·split at h
    ·cases h
    ·cases h;rfl
theorem stF_calls {cs:List Gc}{s s':Sc}{x:Gs}(h:stF cs s x=.ok s'):s'.calls≤s.calls+1:=by
 obtain⟨k,nm,sz,op,val,into,cont,xs,thn,els,l,c⟩:=x;rw[stF_mk]at h;split at h
 ·cases h
 ·split at h
  ·rw[tellF_calls h];omega
  ·split at h
   ·split at h
    ·cases h
    ·cases h;omega
   ·split at h
    ·split at h
     ·cases h
     ·cases h;omega
    ·split at h
     ·rw[callF_calls h];omega
     ·cases h;omega
theorem foldF_calls {cs:List Gc}:∀{l:List Gs}{s s':Sc},CK cs s l=.ok s'→s'.calls≤s.calls+l.length
 |[],s,s',h=>by cases h;exact Nat.le_refl _
 | x::l,s,s',h=>by
  unfold CK at h;split at h
  ·cases h
  ·rename_i s1 h1
   have h2:=foldF_calls h;have h3:=stF_calls h1;rw[LC];omega
theorem flat_len : ∀(n : Nat), (∀x : Gs, CO x≤n→(flat x).length≤CO x)∧∀l : List Gs, BI l≤n→(CI l).length≤BI l
  |0  => ⟨fun x h => by cases x; unfold CO at h; omega, fun l h => by
      cases l with
      |nil => unfold CI; exact Nat.zero_le _
      |cons x l =>  have h1 : 1≤CO x := by cases x; unfold CO; omega
                    unfold BI at h; omega⟩
  | n + 1 => by
    obtain⟨h1, h2⟩ := flat_len n
    have hx : ∀x : Gs, CO x≤n + 1→(flat x).length≤CO x := fun x h => by
      obtain⟨k, nm, sz, op, val, into, cont, xs, thn, els, l, c⟩ := x;rw[flat_mk];unfold CO at h ⊢;have a := h2 thn (by omega);have b := h2 els (by omega);simp only[LC, LA];omega
    refine⟨hx, fun l => ?_⟩
    induction l with
    |nil => intro _; unfold CI; exact Nat.zero_le _
    | cons x l ih =>
      intro h;have e : BI (x :: l) = CO x + BI l := by conv => lhs; unfold BI
      have e2 : CI (x :: l) = flat x ++ CI l := by conv => lhs; unfold CI
      rw[e]at h ⊢;rw[e2, LA];have := hx x (by omega);have := ih (by omega);omega
theorem DL {G G1:Nat→Prop}{W A B:World}(k:BA G W A)(k':BA G1 A B)(h:∀b,G1 b→G b∨W.heap.size≤b):BA G W B:=
 ⟨k'.os.trans k.os,k'.tape.trans k.tape,k'.output.trans k.output,Nat.le_trans k.size k'.size,fun b hb hn=>(k'.block b (Nat.lt_of_lt_of_le hb k.size) fun h1=>(h b h1).elim hn fun h2=>by omega).trans (k.block b hb hn)⟩
def StepJ (J:World→(Nat→Prop)→Sc→Prop)(v:Value)(w:World)(G:Nat→Prop)(r:Except Fl Sc)(e:Ending)(w':World):Prop:=BA G w w'∧match r with
 |.error f=>e=.panicked (fwC f.err f.line f.col)
 |.ok s'=>e=.returned v∧∃G',J w' G' s'∧∀b,G' b→G b∨w.heap.size≤b
def RoundsF (cs:List Gc)(L:Nat)(J:World→(Nat→Prop)→Sc→Prop):Prop:=∀(s:Sc) (G:Nat→Prop) (x:Gs) (W:World) (T:Nat→Prop) (vs:List Value),J W G s→SAt W T vs x→(∀b,T b→¬G b)→CO x≤1099511627776→s.calls+1≤1099511627776→
 ∀m,YieldAt Fence.wide m Tryz.prog L #[.agg vs.toArray] W fun e W'=>StepJ J (.bool true) W G (stF cs s x) e W'
theorem walk_any (cs : List Gc)(L : Nat)(J : World→(Nat→Prop)→Sc→Prop)(hJ1 : ∀W W' G s, J W G s→BA (fun _ => False) W W'→J W' G s)(hJ2 : ∀W G s, J W G s→∀b, G b→b < W.heap.size)(hR : RoundsF cs L J) : ∀(n : Nat) (l : List Gs), BI l≤n→n≤1099511627776→∀(s : Sc) (G : Nat→Prop) (W : World) (S : Nat→Prop) (p : Option Addr) (c : Nat),
    J W G s→CF W S p 0 l→(∀b, S b→¬G b∧b < W.heap.size)→s.calls + BI l≤1099511627776 →
    Calls Tryz.prog 71 #[.slice p l.length c, .func (.yield L) #[] #[]] W fun e W' => StepJ J (.bool true) W G (CK cs s (CI l)) e W' := by
  intro n
  induction n with
  | zero =>
    intro l hl hn
    cases l with
    |cons x l =>  have h1 : 1≤CO x := by cases x; unfold CO; omega
                  unfold BI at hl; omega
    | nil =>
      intro s G W S p c hj hp hS hc;have HJ := Lib.hid hj;have e0 : CI [] = [] := by unfold CI; rfl
      rw[e0];clear hj hp hS hJ1 hJ2 hR;go_enter Tryz.func71, Tryz.ntmps71;go_wp2_with fail;go_loopw [9] (fun v9 wr => v9 = .int .i64 0∧wr = W) (fun v _ => 0)
      case atStart => exact⟨rfl, rfl⟩
      case round =>
        obtain⟨rfl, rfl⟩ := hrel;go_wp2_with fail;go_ret;exact⟨BA.refl _ _, rfl, G, HJ.out, fun b hb => .inl hb⟩
  | succ n ih =>
    intro l hl hn s G W S p c hj hp hS hc;have HIH := Lib.hid ih; have HJ1 := Lib.hid hJ1; have HJ2 := Lib.hid hJ2; have HR := Lib.hid hR; have HP := Lib.hid hp; have HS := Lib.hid hS; have HJ := Lib.hid hj; have HL := Lib.hid hl; have HN := Lib.hid hn; have HC := Lib.hid hc;have hkl := slen_size l;have HKL := Lib.hid hkl;have hdd : ∀k : Nat, (Fence.wide.depth.isSome = true→1≤k) := fun k h => by simp[Fence.wide]at h
    clear ih hJ1 hJ2 hR hp hS hj hl hn hc hkl;refine(callsIn_wide (n := 1)).1 ?_;refine callsIn_of_wp Tryz.func71 rfl trivial ?_ rfl;simp only[Tryz.ntmps71, List.size_toArray, LC, List.length_nil, Nat.reduceAdd, Nat.reduceSub, Array.replicate_succ, Array.replicate_zero, List.push_toArray, List.append_toArray, List.nil_append, List.cons_append]
    gi_wp2
    gi_loopw [9] (fun v9 wr => ∃(i : Nat) (s1 : Sc) (G1 : Nat→Prop), v9 = .int .i64 i∧i≤l.length∧CK cs s (CI (l.take i)) = .ok s1∧J wr G1 s1∧(∀b, G1 b→G b∨W.heap.size≤b)∧BA G W wr) (fun v _ => l.length - (intOf v).toNat)
    case atStart => exact⟨0, s, G, rfl, Nat.zero_le _, by simp[CI, CK], HJ.out, fun b hb => .inl hb, BA.refl _ _⟩
    case round =>
      obtain⟨i, s1, G1, rfl, hi, hf, hj, hg, hk⟩ := hrel;have HF := Lib.hid hf; have HJJ := Lib.hid hj; have HG := Lib.hid hg; have HK := Lib.hid hk;by_cases hlt : i < l.length
      · have hlti : (i : Int) < l.length := by omega
        have hi0 : (0 : Int)≤i := by omega
        have hWi : IntKind.i64.wrap ((i : Int) + 1) = (i : Int) + 1 := IntWalk.i64_in _ (by have := HKL.out; have := HL.out; have := HN.out; omega)
        have hSG : ∀b, S b→¬G1 b∧b < wr.heap.size := fun b hb => by
          have h0 := HS.out b hb;exact⟨fun h => (hg b h).elim h0.1 fun h => by omega, by have := hk.size; omega⟩
        obtain⟨g, o, vs, hpp, hcl, hex⟩ := skids_gt (HP.out.keep hk fun b hb => (HS.out b hb).1) i hlt;subst hpp;rw[Nat.zero_add]at hcl;have hsz := ssize_mem hlt;have hcs : s1.calls≤s.calls + (CI (l.take i)).length := foldF_calls hf;have hft := flatL_take hlt;have hll := (flat_len _).2 (l.take (i + 1)) (Nat.le_refl _);have hlz := sSizeL_le (l := l) (i + 1);rw[hft, LA]at hll;have HHIT := Lib.hid (fun f => foldF_hit (f := f) cs hlt hf);have HNXT := Lib.hid (fun s2 => foldF_next (s2 := s2) cs hlt hf);have hts : (CI (l.take i)).length≤BI (l.take i)∧BI (l.take (i + 1)) = BI (l.take i) + CO l[i] := ⟨(flat_len _).2 _ (Nat.le_refl _), sSizeL_take hlt⟩;obtain⟨x, hx⟩ : ∃x, l[i] = x := ⟨_, rfl⟩;rw[hx]at hex hsz hll HHIT HNXT hts;obtain⟨k, nm, sz, op, val, into, cont, xs, thn, els, li, co⟩ := x;rw[foldF_flat]at HHIT HNXT;rw[flat_mk]at hll;simp only[LC, LA]at hll;have hex0 := hex;unfold SAt at hex;obtain⟨px, cx, pt, ct, pe, ce, rfl, -, h2, h3⟩ := hex;obtain⟨S1, hS1⟩ : ∃S, strV nm = .string S := ⟨_, rfl⟩;obtain⟨S2, hS2⟩ : ∃S, strV val = .string S := ⟨_, rfl⟩;obtain⟨S3, hS3⟩ : ∃S, strV into = .string S := ⟨_, rfl⟩;obtain⟨S4, hS4⟩ : ∃S, strV cont = .string S := ⟨_, rfl⟩;rw[hS1, hS2, hS3, hS4]at hcl hex0;have x0 : wr.cell? ⟨g, o + i * 12, none⟩ = some (.int .i64 k) := hcl 0 _ rfl;have x1 := hcl 1 _ rfl; have x2 := hcl 2 _ rfl; have x3 := hcl 3 _ rfl; have x4 := hcl 4 _ rfl; have x5 := hcl 5 _ rfl; have x6 := hcl 6 _ rfl; have x7 := hcl 7 _ rfl; have x8 := hcl 8 _ rfl; have x9 := hcl 9 _ rfl; have x10 := hcl 10 _ rfl; have x11 := hcl 11 _ rfl;obtain⟨W1, C, hW, hC, hcb, hkc, hsc⟩ := BD wr (.cells #[.int .i64 k, .string S1, .int .i64 sz, .int .i64 op, .string S2, .string S3, .string S4, .slice px xs.length cx, .slice pt thn.length ct, .slice pe els.length ce, .int .i64 li, .int .i64 co] TSm);have HY := Lib.hid (HR.out s1 G1 _ W1 S _ (HJ1.out _ _ _ _ hj hkc) (hex0.keep hkc fun _ _ e => e) (fun b hb => (hSG b hb).1) (by have := HL.out; have := HN.out; omega) (by have := HC.out; omega));have HCB := Lib.hid hcb; have HKC := Lib.hid hkc; have HT := Lib.hid h2; have HE := Lib.hid h3; have HSG := Lib.hid hSG; have HLL := Lib.hid hll; have HSZ := Lib.hid hsz; have HCS := Lib.hid hcs; have HTS := Lib.hid hts; have HSC := Lib.hid hsc; have HLZ := Lib.hid hlz;obtain⟨r, hr⟩ : ∃r, stF cs s1 (.mk k nm sz op val into cont xs thn els li co) = r := ⟨_, rfl⟩;rw[hr]at HY HHIT HNXT;have HRR := Lib.hid hr;obtain⟨n0, n1, n2, n3, n4, n5, n6, n7, n8, n9, n10, n11⟩ := BK hcb;clear hcl hex0 h2 h3 hcb hkc hsc hts hSG hll hsz hcs hft hlz hr hf hj hg hk hx
        gi_upto_region 4 with fail
        have hC1 : ¬G1 C := fun h => by have := HJ2.out _ _ _ HJJ.out C h; omega
        have HC1 := Lib.hid hC1;have HGG := Lib.hid (show ∀G2 : Nat→Prop, (∀b, G2 b→G1 b∨W1.heap.size≤b)→∀b, G2 b→G b∨W.heap.size≤b from fun G2 h b hb => (h b hb).elim (HG.out b) fun h1 => .inr (by have h2 := HK.out.size; have h3 := HKC.out.size; omega));have HGH := Lib.hid (show ∀(W2 : World) (G2 G3 : Nat→Prop), (∀b, G2 b→G1 b∨W1.heap.size≤b)→BA G1 W1 W2→(∀b, G3 b→G2 b∨W2.heap.size≤b)→∀b, G3 b→G b∨W.heap.size≤b from fun W2 G2 G3 h hk h3 b hb => (h3 b hb).elim (HGG.out G2 h b) fun h1 => .inr (by have h2 := HK.out.size; have h3 := HKC.out.size; have h4 := hk.size; omega));have HCN := Lib.hid (show ∀G2 : Nat→Prop, (∀b, G2 b→G1 b∨W1.heap.size≤b)→¬G2 C from fun G2 h hC => (h C hC).elim HC1.out fun h1 => by have := HSC.out; omega);have HDS := Lib.hid (show ∀G2 : Nat→Prop, (∀b, G2 b→G1 b∨W1.heap.size≤b)→∀b, S b→¬G2 b from fun G2 h b hb h2 => (h b h2).elim (HSG.out b hb).1 fun h1 => by have := (HSG.out b hb).2; have := HKC.out.size; omega);rw[← hW, ← hC];clear hW hC x0 x1 x2 x3 x4 x5 x6 x7 x8 x9 x10 x11
        cases r with
        | error f =>
          obtain⟨fn, tmps, assign, body, hy, hRn⟩ := HY.out 0
          gi_wp2_with ((try refine⟨hdd _, ?_⟩); refine hRn.mono ?_; clear hRn hy; rintro e W2 ⟨hk2, he⟩; have he : e = .panicked (fwC f.err f.line f.col) := he; subst he; have HK2 := Lib.hid hk2; clear hk2)
          exact⟨rfl, DL (HK.out.trans (HKC.out.mono fun _ e => e.elim)) HK2.out HG.out, by rw[HHIT.out f rfl]⟩
        | ok s2 =>
          have hs2 : s2.calls≤s1.calls + 1 := stF_calls HRR.out;have HS2 := Lib.hid hs2
          have HTH := Lib.hid (show ∀(W2 : World) (G2 : Nat→Prop), BA G1 W1 W2→J W2 G2 s2→(∀b, G2 b→G1 b∨W1.heap.size≤b)→Calls Tryz.prog 71 #[.slice pt thn.length ct, .func (.yield L) #[] #[]] W2 fun e W' => StepJ J (.bool true) W2 G2 (CK cs s2 (CI thn)) e W' from fun W2 G2 hk hj hg =>
            HIH.out thn (by have h1 := HSZ.out; have h2 := HL.out; unfold CO at h1; omega) (by have := HN.out; omega) s2 G2 W2 S pt ct hj ((HT.out.keep (HKC.out) fun _ _ e => e).keep hk fun b hb => (HSG.out b hb).1) (fun b hb => ⟨HDS.out G2 hg b hb, by have h1 := (HSG.out b hb).2; have h2 := HKC.out.size; have h3 := hk.size; omega⟩) (by have h1 := HSZ.out; have h2 := HL.out; have h3 := HN.out; have h4 := HC.out; have h6 := HLZ.out; have h7 := HCS.out; have h8 := HS2.out; have h9 := HTS.out; unfold CO at h9; omega))
          obtain⟨r1, hr1⟩ : ∃r, CK cs s2 (CI thn) = r := ⟨_, rfl⟩;simp only[hr1]at HTH HHIT HNXT;have HR1 := Lib.hid hr1;clear hs2 hr1
          cases r1 with
          | error f =>
            obtain⟨fn, tmps, assign, body, hy, hRn⟩ := HY.out 0
            gi_wp2_with (first|((try refine⟨hdd _, ?_⟩); refine hRn.mono ?_; clear hRn hy; rintro e W2 ⟨hk2, he⟩; obtain⟨rfl, G2, hj2, hg2⟩ := (show e = .returned (.bool true)∧∃G', J W2 G' s2∧∀b, G' b→G1 b∨W1.heap.size≤b from he); have c8 := hk2.cell n8 hC1; have c9 := hk2.cell n9 hC1; have HK2 := Lib.hid hk2; have HJ3 := Lib.hid hj2; have HG2 := Lib.hid hg2; have HCL := Lib.hid (HTH.out W2 G2 hk2 hj2 hg2); clear hk2 hj2 hg2 he n0 n1 n2 n3 n4 n5 n6 n7 n8 n9 n10 n11)|((first|gi_at_call 71|(refine⟨trivial, ?_⟩; gi_at_call 71)|(refine⟨hdd _, ?_⟩; gi_at_call 71)); refine((callsIn_wide (n := _)).2 HCL.out).mono ?_; clear HCL; rintro e W3 ⟨hk3, he⟩; have he : e = .panicked (fwC f.err f.line f.col) := he; subst he; have HK3 := Lib.hid hk3; clear hk3))
            exact⟨rfl, DL (DL (HK.out.trans (HKC.out.mono fun _ e => e.elim)) HK2.out HG.out) HK3.out (HGG.out G2 HG2.out), by rw[HHIT.out f rfl]⟩
          | ok s3 =>
            have hs3 : s3.calls≤s2.calls + (CI thn).length := foldF_calls HR1.out;have HS3 := Lib.hid hs3
            have HEL := Lib.hid (show ∀(W2 : World) (G2 : Nat→Prop) (W3 : World) (G3 : Nat→Prop), BA G1 W1 W2→(∀b, G2 b→G1 b∨W1.heap.size≤b)→BA G2 W2 W3→J W3 G3 s3→(∀b, G3 b→G2 b∨W2.heap.size≤b)→Calls Tryz.prog 71 #[.slice pe els.length ce, .func (.yield L) #[] #[]] W3 fun e W' => StepJ J (.bool true) W3 G3 (CK cs s3 (CI els)) e W' from fun W2 G2 W3 G3 hk hg hk3 hj hg3 =>
              HIH.out els (by have h1 := HSZ.out; have h2 := HL.out; unfold CO at h1; omega) (by have := HN.out; omega) s3 G3 W3 S pe ce hj (((HE.out.keep (HKC.out) fun _ _ e => e).keep hk fun b hb => (HSG.out b hb).1).keep hk3 fun b hb => HDS.out G2 hg b hb) (fun b hb => ⟨fun h => (hg3 b h).elim (HDS.out G2 hg b hb) fun h1 => by have h2 := (HSG.out b hb).2; have h3 := HKC.out.size; have h4 := hk.size; omega, by have h1 := (HSG.out b hb).2; have h2 := HKC.out.size; have h3 := hk.size; have h4 := hk3.size; omega⟩) (by have h1 := HSZ.out; have h2 := HL.out; have h3 := HN.out; have h4 := HC.out; have h6 := HLZ.out; have h7 := HCS.out; have h8 := HS2.out; have h9 := HTS.out; have h10 := HS3.out; have h11 := (flat_len _).2 thn (Nat.le_refl _); unfold CO at h9; omega))
            obtain⟨r2, hr2⟩ : ∃r, CK cs s3 (CI els) = r := ⟨_, rfl⟩;simp only[hr2]at HEL HHIT HNXT;clear hs3 hr2
            cases r2 with
            | error f =>
              obtain⟨fn, tmps, assign, body, hy, hRn⟩ := HY.out 0
              gi_wp2_with (first|((try refine⟨hdd _, ?_⟩); refine hRn.mono ?_; clear hRn hy; rintro e W2 ⟨hk2, he⟩; obtain⟨rfl, G2, hj2, hg2⟩ := (show e = .returned (.bool true)∧∃G', J W2 G' s2∧∀b, G' b→G1 b∨W1.heap.size≤b from he); have c8 := hk2.cell n8 hC1; have c9 := hk2.cell n9 hC1; have HK2 := Lib.hid hk2; have HJ3 := Lib.hid hj2; have HG2 := Lib.hid hg2; have HCL := Lib.hid (HTH.out W2 G2 hk2 hj2 hg2); clear hk2 hj2 hg2 he n0 n1 n2 n3 n4 n5 n6 n7 n8 n9 n10 n11)|((first|gi_at_call 71|(refine⟨trivial, ?_⟩; gi_at_call 71)|(refine⟨hdd _, ?_⟩; gi_at_call 71)); refine((callsIn_wide (n := _)).2 HCL.out).mono ?_; clear HCL; rintro e W3 ⟨hk3, he⟩; obtain⟨rfl, G3, hj3, hg3⟩ := (show e = .returned (.bool true)∧∃G', J W3 G' s3∧∀b, G' b→G2 b∨W2.heap.size≤b from he); have d9 := hk3.cell c9 (HCN.out G2 HG2.out); have HK3 := Lib.hid hk3; have HJ4 := Lib.hid hj3; have HG3 := Lib.hid hg3; have HCM := Lib.hid (HEL.out W2 G2 W3 G3 HK2.out HG2.out hk3 hj3 hg3); clear hk3 hj3 hg3 he c8 c9)|((first|gi_at_call 71|(refine⟨trivial, ?_⟩; gi_at_call 71)|(refine⟨hdd _, ?_⟩; gi_at_call 71)); refine((callsIn_wide (n := _)).2 HCM.out).mono ?_; clear HCM; rintro e W4 ⟨hk4, he⟩; have he : e = .panicked (fwC f.err f.line f.col) := he; subst he; have HK4 := Lib.hid hk4; clear hk4))
              exact⟨rfl, DL (DL (DL (HK.out.trans (HKC.out.mono fun _ e => e.elim)) HK2.out HG.out) HK3.out (HGG.out G2 HG2.out)) HK4.out (HGH.out W2 G2 G3 HG2.out HK2.out HG3.out), by rw[HHIT.out f rfl]⟩
            | ok s4 =>
              obtain⟨fn, tmps, assign, body, hy, hRn⟩ := HY.out 0
              gi_wp2_with (first|((try refine⟨hdd _, ?_⟩); refine hRn.mono ?_; clear hRn hy; rintro e W2 ⟨hk2, he⟩; obtain⟨rfl, G2, hj2, hg2⟩ := (show e = .returned (.bool true)∧∃G', J W2 G' s2∧∀b, G' b→G1 b∨W1.heap.size≤b from he); have c8 := hk2.cell n8 hC1; have c9 := hk2.cell n9 hC1; have HK2 := Lib.hid hk2; have HJ3 := Lib.hid hj2; have HG2 := Lib.hid hg2; have HCL := Lib.hid (HTH.out W2 G2 hk2 hj2 hg2); clear hk2 hj2 hg2 he n0 n1 n2 n3 n4 n5 n6 n7 n8 n9 n10 n11)|((first|gi_at_call 71|(refine⟨trivial, ?_⟩; gi_at_call 71)|(refine⟨hdd _, ?_⟩; gi_at_call 71)); refine((callsIn_wide (n := _)).2 HCL.out).mono ?_; clear HCL; rintro e W3 ⟨hk3, he⟩; obtain⟨rfl, G3, hj3, hg3⟩ := (show e = .returned (.bool true)∧∃G', J W3 G' s3∧∀b, G' b→G2 b∨W2.heap.size≤b from he); have d9 := hk3.cell c9 (HCN.out G2 HG2.out); have HK3 := Lib.hid hk3; have HJ4 := Lib.hid hj3; have HG3 := Lib.hid hg3; have HCM := Lib.hid (HEL.out W2 G2 W3 G3 HK2.out HG2.out hk3 hj3 hg3); clear hk3 hj3 hg3 he c8 c9)|((first|gi_at_call 71|(refine⟨trivial, ?_⟩; gi_at_call 71)|(refine⟨hdd _, ?_⟩; gi_at_call 71)); refine((callsIn_wide (n := _)).2 HCM.out).mono ?_; clear HCM; rintro e W4 ⟨hk4, he⟩; obtain⟨rfl, G4, hj4, hg4⟩ := (show e = .returned (.bool true)∧∃G', J W4 G' s4∧∀b, G' b→G3 b∨W3.heap.size≤b from he); have HK4 := Lib.hid hk4; have HJ5 := Lib.hid hj4; have HG4 := Lib.hid hg4; clear hk4 hj4 hg4 he))
              refine⟨⟨i + 1, s4, G4, by simp, by omega, HNXT.out s4 rfl, HJ5.out, fun b hb => ?_, DL (DL (DL (HK.out.trans (HKC.out.mono fun _ e => e.elim)) HK2.out HG.out) HK3.out (HGG.out G2 HG2.out)) HK4.out (HGH.out W2 G2 G3 HG2.out HK2.out HG3.out)⟩, by simp only[intOf]; omega⟩;refine(HG4.out b hb).elim (HGH.out W2 G2 G3 HG2.out HK2.out HG3.out b) fun h => .inr ?_;have h1 := HK.out.size; have h2 := HKC.out.size; have h3 := HK2.out.size; have h4 := HK3.out.size; omega
      · have hnl : ¬(i : Int) < l.length := by omega
        have e : i = l.length := by omega
        rw[e, List.take_length]at hf;have HF2 := Lib.hid hf;clear hf hj hg hk e
        gi_wp2
        go_ret;exact⟨HK.out, by rw[HF2.out]; exact⟨rfl, G1, HJJ.out, HG.out⟩⟩
attribute [local go_sem] Oper.semAt_some
theorem tlL_app : ∀a b : List Gs, tlL (a ++ b) = (tlL a || tlL b)
  |[], b => by  rw[List.nil_append]; have : tlL [] = false := by unfold tlL; rfl
                rw[this]; rfl
  | x :: a, b => by
    have e : ∀r, tlL (x :: r) = (tlS x || tlL r) := fun r => by conv => lhs; unfold tlL
    rw[List.cons_append, e, e, tlL_app a b, Bool.or_assoc]
theorem tlL_take {l:List Gs}{k:Nat}(h:k<l.length):tlL (l.take (k+1))=(tlL (l.take k) || tlS l[k]):=by
 have e:tlL [l[k]]=tlS l[k]:=by unfold tlL tlL;exact Bool.or_false _
 rw[List.take_succ_eq_append_getElem h,tlL_app,e]
theorem tlL_hit {l:List Gs}{k:Nat}(h:k<l.length)(ht:tlS l[k]=true):tlL l=true:=by
 have e:=tlL_app (l.take (k+1)) (l.drop (k+1));rw[List.take_append_drop,tlL_take h,ht,Bool.or_true,Bool.true_or]at e;exact e
theorem told_any:∀(n:Nat) (l:List Gs),BI l≤n→n≤1000000000→∀(w:World) (S:Nat→Prop) (p:Option Addr) (c:Nat),CF w S p 0 l→
  Calls Tryz.prog 28 #[.slice p l.length c] w fun e w'=>e=.returned (.bool (tlL l))∧BA (fun _=>False) w w'
 | n,l,hn,hn9,w,S,p,c,hp=>by
  have IH:∀m,m<n→∀l':List Gs,BI l'≤m→∀(w:World) (S:Nat→Prop) (p:Option Addr) (c:Nat),CF w S p 0 l'→
    Calls Tryz.prog 28 #[.slice p l'.length c] w fun e w'=>e=.returned (.bool (tlL l'))∧BA (fun _=>False) w w':=fun m hm l' hl' w S p c hp=>told_any m l' hl' (by omega) w S p c hp
  have HIH:=hid IH;have HP:=hid hp;have HL:=hid (show l.length≤1000000000 from by have:=slen_size l;omega);have HN:=hid hn;clear hp IH hn hn9;go_enter Tryz.func28,Tryz.ntmps28;go_wp2_with fail;go_loopw [3] (fun v3 wr=>∃k:Nat,v3=.int .i64 k∧k≤l.length∧tlL (l.take k)=false∧BA (fun _=>False) w wr) (fun v _=>l.length - (intOf v).toNat)
  case atStart=>exact⟨0,rfl,Nat.zero_le _,by rw[List.take_zero];unfold tlL;rfl,BA.refl _ _⟩
  case round=>
   obtain⟨k,rfl,hk,hno,hkk⟩:=hrel;have HNO:=hid hno;have HK:=hid hkk;by_cases hlt:k<l.length
   ·have hlti:(k:Int)<l.length:=by omega
    have hi0:(0:Int)≤k:=by omega
    have hWi:IntKind.i64.wrap ((k:Int)+1)=(k:Int)+1:=IntWalk.i64_in _ (by have:=HL.out;omega);obtain⟨g,o,vs,hp,hcell,hsat,-⟩:=skids_get (HP.out.keep hkk fun _ _ e=>e) k hlt;subst hp;rw[Nat.zero_add]at hcell;have hsz:=ssize_mem hlt;have HLT:=hid hlt;obtain⟨x,hx⟩:∃x,l[k]=x:=⟨_,rfl⟩;have hsat:SAt wr S vs x:=by rw[←hx];exact hsat
    have hsz:CO x≤BI l:=by rw[←hx];exact hsz
    have HX:=hid hx;obtain⟨xk,nm,sz,op,val,into,cont,xs,thn,els,ln,cl⟩:=x;unfold SAt at hsat
    obtain⟨q1,e1,q2,e2,q3,e3,rfl,hxs,hthn,hels⟩:=hsat
    have y0:wr.cell? ⟨g,o+k * 12,none⟩=some (.int .i64 xk):=hcell 0 _ rfl;have y8:wr.cell? ⟨g,o+k * 12+8,none⟩=some (.slice q2 thn.length e2):=hcell 8 _ rfl;have y9:wr.cell? ⟨g,o+k * 12+9,none⟩=some (.slice q3 els.length e3):=hcell 9 _ rfl;have hS1:CO (.mk xk nm sz op val into cont xs thn els ln cl)=CV xs+BI thn+BI els+1:=by conv=>lhs;unfold CO
    have hT1:tlS (.mk xk nm sz op val into cont xs thn els ln cl)=(xk==1 || (xk==2 || (tlL thn || tlL els))):=by conv=>lhs;unfold tlS
    have HTS:=hid (show tlS l[k]=(xk==1 || (xk==2 || (tlL thn || tlL els))) from(congrArg tlS HX.out).trans hT1);have H1:=hid (HIH.out (BI thn) (by have:=HN.out;omega) thn (Nat.le_refl _) wr S q2 e2 hthn);have H2:=hid (fun w2 (h:BA (fun _=>False) wr w2)=>HIH.out (BI els) (by have:=HN.out;omega) els (Nat.le_refl _) w2 S q3 e3 (hels.keep h fun _ _ e=>e));clear hcell hsz hx hxs hthn hels hS1 hT1 hkk hno;by_cases h1:xk=1
    ·subst h1;clear H1 H2;go_wp2_with fail;go_ret;exact⟨by rw[tlL_hit HLT.out (HTS.out.trans rfl)];rfl,HK.out⟩
    ·have b1:(xk==1)=false:=BF.2 h1;by_cases h2:xk=2
     ·subst h2;clear H1 H2;go_wp2_with fail;go_ret;exact⟨by rw[tlL_hit HLT.out (HTS.out.trans rfl)];rfl,HK.out⟩
     ·have b2:(xk==2)=false:=BF.2 h2;rw[b1,b2,Bool.false_or,Bool.false_or]at HTS;obtain⟨t1,ht1⟩:∃t,tlL thn=t:=⟨_,rfl⟩;obtain⟨t2,ht2⟩:∃t,tlL els=t:=⟨_,rfl⟩;rw[ht1]at H1;rw[ht2]at H2;rw[ht1,ht2]at HTS;clear ht1 ht2
      cases t1 with
      | true=>
       go_wp2_with (go_at_call 28;refine H1.out.mono ?_;rintro e w2 ⟨rfl,hk2⟩;have HK2:=hid hk2;have H3:=hid (H2.out w2 hk2);clear H1 H2;have y9':=hk2.stay y9;clear hk2 y9);go_ret;exact⟨by rw[tlL_hit HLT.out (HTS.out.trans rfl)];rfl,HK.out.trans HK2.out⟩
      | false=>
       cases t2 with
       | true=>
        go_wp2_with (first|(go_at_call 28;refine H1.out.mono ?_;rintro e w2 ⟨rfl,hk2⟩;have HK2:=hid hk2;have H3:=hid (H2.out w2 hk2);clear H1 H2;have y9':=hk2.stay y9;clear hk2 y9)|(go_at_call 28;refine H3.out.mono ?_;rintro e w3 ⟨rfl,hk3⟩;have HK3:=hid hk3;clear hk3));go_ret;exact⟨by rw[tlL_hit HLT.out (HTS.out.trans rfl)];rfl,HK.out.trans (HK2.out.trans HK3.out)⟩
       | false=>
        go_wp2_with (first|(go_at_call 28;refine H1.out.mono ?_;rintro e w2 ⟨rfl,hk2⟩;have HK2:=hid hk2;have H3:=hid (H2.out w2 hk2);clear H1 H2;have y9':=hk2.stay y9;clear hk2 y9)|(go_at_call 28;refine H3.out.mono ?_;rintro e w3 ⟨rfl,hk3⟩;have HK3:=hid hk3;clear hk3));exact⟨⟨k+1,by simp,by have:=HLT.out;omega,by rw[tlL_take HLT.out,HNO.out];exact(Bool.false_or _).trans (HTS.out.trans rfl),HK.out.trans (HK2.out.trans HK3.out)⟩,by simp only[intOf];have:=HLT.out;omega⟩
   ·have hnl:¬(k:Int)<l.length:=by omega
    clear hkk hno;have hl0:tlL l=false:=by have h:=HNO.out;rwa [List.take_of_length_le (by omega)]at h
    have HL0:=hid hl0;clear hl0;go_wp2_with fail;go_ret;exact⟨by rw[HL0.out];rfl,HK.out⟩
 termination_by n=>n
attribute [local go_sem] Oper.semAt_some
theorem region_own0 {P:Program}{L n:Nat}{l:List Oper}{Q:Exit→Act→World→Prop}{id:Nat}{a:Act}{w:World}(X:List PanicEntry→World→Prop)(hX:∀ch a' w',OwnX.Fr l.toArray a a'→X ch w'→Q (.panic ch) a' w')(hm:P.follows .mixedOrders=true)
  (hd:∀o∈l.toArray,∀c,o.op≠.defer c) (hQ:∀a w,¬Q .outgrown a w) (D av ea:Nat→List Nat) (keep:List Nat) (hok:okB l.toArray D av ea keep=true) (sp:Nat→Option Loud)
  (hlex:OwnX.Lex P l.toArray w.drew (fun _=>False) X sp av ea (fun a F Fp=>Done w.drew (fun _=>False) Q keep a F Fp) l 0 a (fun _ _=>True) (fun _ _=>False)):(Code.region id l.toArray true).wpIn (Fence.wide.inRound L) n P Q a w:=
 Rf.region_any hm hd hQ (OwnX.any_own hX D av ea keep hok sp _ _ _ (fun _ _=>rfl) (fun _ _=>rfl) (fun _ _=>⟨fun _ _ _ _ _ _ _=>trivial,trivial,fun _ h=>h.elim⟩) (fun _ _ _ _ _ _ h=>h.elim) hlex.out)
theorem pat_in {w:World}{S:Nat→Prop}{v:Value}{p:Gp}(h:PAt w S v p):PAt w (fun b=>S b∧b<w.heap.size) v p:=by
 obtain⟨p1,c1,p2,c2,h1,h2,h3⟩:=h;have hk:∀b o v,S b→w.cell? ⟨b,o,none⟩=some v→w.cell? ⟨b,o,none⟩=some v∧(S b∧b<w.heap.size):=fun b _ _ hb hc=>⟨hc,hb,World.block_lt_of_cell? w _ hc⟩;exact⟨p1,c1,p2,c2,h1,h2.keepS hk,h3.keepS hk⟩
abbrev TLs:TypeId:=34
theorem each_any (w:World)(q:Option Addr)(n c:Nat):Calls Tryz.prog 53 #[.slice q n c] w fun e w'=>e=.returned (.func (.func 70) #[] #[.pointer (some ⟨w.heap.size,0,none⟩)])∧w'=w.alloc (.cells #[.slice q n c] TLs):=by
 unfold TLs;go_enter Tryz.func53,Tryz.ntmps53;go_wp2_with fail;go_ret;exact⟨rfl,rfl⟩
theorem each1_any (w:World)(L Be:Nat)(q:Option Addr)(n c:Nat)(hB:w.heap[Be]?=some (.cells #[.slice q n c] TLs (0,0)))(R:Ending→World→Prop)
  (hW:Calls Tryz.prog 71 #[.slice q n c,.func (.yield L) #[] #[]] w fun e w'=>(∃ch,e=.panicked ch∧R (.panicked ch) w')∨(e=.returned (.bool true)∧R (.returned (.tuple #[])) w')):
  Calls Tryz.prog 70 #[.func (.yield L) #[] #[],.pointer (some ⟨Be,0,none⟩)] w R:=by
 have HW:=hid hW;have hx:w.cell? ⟨Be,0,none⟩=some (.slice q n c):=by simp[World.cell?,hB]
 clear hW hB;go_enter Tryz.func70,Tryz.ntmps70;go_wp2_with (go_at_call 71;refine HW.out.mono ?_;rintro e w5 (⟨ch,rfl,h5⟩|⟨rfl,h5⟩)<;>(have H5:=hid h5;clear h5))
 ·exact⟨rfl,H5.out⟩
 ·go_end0
  exact H5.out
abbrev TSp:TypeId:=85
abbrev TPr0:TypeId:=25
structure TJ (p:Gp)(N:Int)(p1:Option Addr)(n1 c1:Nat)(p2:Option Addr)(n2 c2:Nat)(Sp:Nat→Prop)(B M L D C1 Cs:Nat)(rdy:Loop)(W:World)(G:Nat→Prop)(s:Sc):Prop where
 gs:∃E,ScAt W B M E s∧¬E L∧∀b,E b→G b
 ok:ScOk s
 lt:∀b,G b→b<W.heap.size
 gl:G L
 rc:W.heap[L]?=some (.loop rdy)
 dd:W.heap[D]?=some (.deferred (some []))∧¬G D
 bx:W.heap[C1]?=some (.cells #[.int .i64 N,.slice p1 n1 c1,.slice p2 n2 c2] TPr0 (0,0))∧¬G C1
 bs:W.heap[Cs]?=some (.cells #[.pointer (some ⟨B,0,none⟩)] TSp (0,0))∧¬G Cs
 pat:PAt W Sp (.agg #[.int .i64 N,.slice p1 n1 c1,.slice p2 n2 c2]) p
 dis:∀b,Sp b→¬G b∧b<W.heap.size
theorem TJ.stay {p:Gp}{N:Int}{p1:Option Addr}{n1 c1:Nat}{p2:Option Addr}{n2 c2:Nat}{Sp:Nat→Prop}{B M L D C1 Cs:Nat}{rdy:Loop}(W W':World)(G:Nat→Prop)(s:Sc)(h:TJ p N p1 n1 c1 p2 n2 c2 Sp B M L D C1 Cs rdy W G s)(k:BA (fun _=>False) W W'):
  TJ p N p1 n1 c1 p2 n2 c2 Sp B M L D C1 Cs rdy W' G s:=by
 obtain⟨⟨E,h1,h2,h3⟩,h4,h5,h6,h7,h8,h9,h10,h11,h12⟩:=h;exact⟨⟨E,h1.stay k,h2,h3⟩,h4,fun b hb=>Nat.lt_of_lt_of_le (h5 b hb) k.size,h6,k.blk h7,⟨k.blk h8.1,h8.2⟩,⟨k.blk h9.1,h9.2⟩,⟨k.blk h10.1,h10.2⟩,CG h11 k,fun b hb=>⟨(h12 b hb).1,Nat.lt_of_lt_of_le (h12 b hb).2 k.size⟩⟩
theorem ScAt.mono {w:World}{B M:Nat}{F F':Nat→Prop}{s:Sc}(h:ScAt w B M F s)(hF:∀b,F b→F' b):ScAt w B M F' s:=by
 obtain⟨ps,cs,pa,ca,hB,hlt,hM,hv,ha,hd,f1,f2,f3,f4⟩:=h;exact⟨ps,cs,pa,ca,hB,hlt,hM,hv,ha,hd,hF _ f1,hF _ f2,fun b hb=>hF _ (f3 b hb),fun b hb=>hF _ (f4 b hb)⟩
theorem ScAt.cut {w:World}{B M:Nat}{F:Nat→Prop}{s:Sc}(h:ScAt w B M F s):ScAt w B M (fun b=>F b∧b<w.heap.size) s:=by
 obtain⟨ps,cs,pa,ca,hB,hlt,hM,hv,ha,hd,f1,f2,f3,f4⟩:=h;exact⟨ps,cs,pa,ca,hB,hlt,hM,hv,ha,hd,⟨f1,(AG.1 hB).1⟩,⟨f2,hM.lt⟩,fun b hb=>⟨f3 b hb,(row_lt hv hb).2⟩,fun b hb=>⟨f4 b hb,(row_lt ha hb).2⟩⟩
theorem BA.putObj (w:World)(l:Nat)(o:Obj):BA (fun b=>b=l) w (w.putObj l o):=
 ⟨rfl,rfl,rfl,by simp[World.putObj],fun k _ hn=>World.putObj_heap_other hn⟩
theorem tellF_ok {cs:List Gc}{s s':Sc}{k sz l c:Int}{nm:List UInt8}(h:DZ cs s k sz l c nm=.ok s')(ho:ScOk s):ScOk s':=by
 unfold DZ at h;unfold ScOk at *;split at h
 ·cases h
 ·split at h
  ·split at h
   ·cases h
   ·cases h;simp only[LA,List.length_singleton];omega
  ·split at h
   ·cases h
   ·split at h
    ·cases h
    ·cases h;simp only[LA,List.length_singleton];omega
theorem callF_ok {cs:List Gc}{s s':Sc}{op l c:Int}{val into cont:List UInt8}(h:clF cs s op l c val into cont=.ok s')(ho:ScOk s):ScOk s':=by
 unfold clF at h;split at h
 ·cases h
 ·split at h
  ·cases h
  ·split at h
   ·cases h
   ·split at h
    ·cases h
    ·cases h;exact ho
theorem stF_ok {cs:List Gc}{s s':Sc}{x:Gs}(h:stF cs s x=.ok s')(ho:ScOk s):ScOk s':=by
 obtain⟨k,nm,sz,op,val,into,cont,xs,thn,els,l,c⟩:=x;rw[stF_mk]at h;split at h
 ·cases h
 ·split at h
  ·exact tellF_ok h ho
  ·split at h
   ·split at h
    ·cases h
    ·cases h;exact ho
   ·split at h
    ·split at h
     ·cases h
     ·cases h;exact ho
    ·split at h
     ·exact callF_ok h ho
     ·cases h;exact ho
theorem round_end {p:Gp}{N:Int}{p1:Option Addr}{n1 c1:Nat}{p2:Option Addr}{n2 c2:Nat}{Sp:Nat→Prop}{B M L D C1 Cs:Nat}{rdy:Loop}{W V V2 V3:World}{G E:Nat→Prop}{s s':Sc}{x:Gs}(hj:TJ p N p1 n1 c1 p2 n2 c2 Sp B M L D C1 Cs rdy W G s)
  (hgs:¬E L∧∀b,E b→G b) (hkV:BA (fun b=>b=L) W V) (hk2:BA (fun _=>False) V V2) (hr:stF p.conts s x=.ok s') (hs:StepF V2 B M E (.ok s') (.returned (.tuple #[])) V3):
  StepJ (TJ p N p1 n1 c1 p2 n2 c2 Sp B M L D C1 Cs rdy) (.bool true) W G (stF p.conts s x) (.returned (.bool true)) (V3.putObj L (.loop rdy)):=by
 obtain⟨hk3,-,hsc⟩:=hs;have hLW:L<W.heap.size:=hj.lt L hj.gl;have hsz1:=hkV.size;have hsz2:=hk2.size;have hsz3:=hk3.size;have hkP:=BA.putObj V3 L (.loop rdy);have hL3:L<V3.heap.size:=by omega
 have hkG:BA G W (V3.putObj L (.loop rdy)):=
  ((hkV.mono fun b e=>by rw[e];exact hj.gl).trans (hk2.mono fun _ e=>e.elim)).trans ((hk3.mono hgs.2).trans (hkP.mono fun b e=>by rw[e];exact hj.gl))
 have hbl:∀b,b<W.heap.size→¬G b→(V3.putObj L (.loop rdy)).heap[b]?=W.heap[b]?:=fun b h1 h2=>hkG.block b h1 h2;refine⟨hkG,?_⟩;rw[hr];refine⟨rfl,fun b=>(((E b∨V2.heap.size≤b)∧b<V3.heap.size)∨b=L),⟨⟨fun b=>(E b∨V2.heap.size≤b)∧b<V3.heap.size,hsc.cut.keep hkP fun b hb e=>?_,fun h=>?_,fun b hb=>.inl hb⟩,stF_ok hr hj.ok,fun b hb=>?_,.inr rfl,World.putObj_heap_same hL3,⟨?_,?_⟩,⟨?_,?_⟩,⟨?_,?_⟩,pat_keep hj.pat hkG fun b hb=>(hj.dis b hb).1,?_⟩,fun b hb=>?_⟩
 ·rw[show b=L from e]at hb;exact hb.1.elim hgs.1 fun h=>by omega
 ·exact h.1.elim hgs.1 fun h=>by omega
 ·rw[show (V3.putObj L (.loop rdy)).heap.size=V3.heap.size by simp[World.putObj]];rcases hb with hb|rfl
  ·exact hb.2
  ·exact hL3
 ·exact(hbl D (AG.1 hj.dd.1).1 hj.dd.2).trans hj.dd.1
 ·have h0:=(AG.1 hj.dd.1).1;rintro (⟨h|h,-⟩|h)
  ·exact hj.dd.2 (hgs.2 _ h)
  ·omega
  ·exact hj.dd.2 (by rw[h];exact hj.gl)
 ·exact(hbl C1 (AG.1 hj.bx.1).1 hj.bx.2).trans hj.bx.1
 ·have h0:=(AG.1 hj.bx.1).1;rintro (⟨h|h,-⟩|h)
  ·exact hj.bx.2 (hgs.2 _ h)
  ·omega
  ·exact hj.bx.2 (by rw[h];exact hj.gl)
 ·exact(hbl Cs (AG.1 hj.bs.1).1 hj.bs.2).trans hj.bs.1
 ·have h0:=(AG.1 hj.bs.1).1;rintro (⟨h|h,-⟩|h)
  ·exact hj.bs.2 (hgs.2 _ h)
  ·omega
  ·exact hj.bs.2 (by rw[h];exact hj.gl)
 ·intro b hb;have h0:=hj.dis b hb;refine⟨?_,Nat.lt_of_lt_of_le h0.2 hkG.size⟩;rintro (⟨h|h,-⟩|h)
  ·exact h0.1 (hgs.2 _ h)
  ·omega
  ·exact h0.1 (by rw[h];exact hj.gl)
 ·rcases hb with⟨h|h,-⟩|rfl
  ·exact .inl (hgs.2 _ h)
  ·exact .inr (by omega)
  ·exact .inl hj.gl
end Go.Proofs.YtknnmidnodeanaaGreatDoor
