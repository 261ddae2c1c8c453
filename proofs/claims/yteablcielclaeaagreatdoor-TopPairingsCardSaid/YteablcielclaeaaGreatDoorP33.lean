/- TwSwC, TwSwN, TwSwCostL, TwSwK. -/
import Derived.Test.YteablcielclaeaaGreatDoorP32
namespace Go.Proofs.YteablcielclaeaaGreatDoor
open Go.ChangeShapes Go.WideShapes Go.ChangeAt Go.RowKit
set_option linter.unusedVariables false
open Go.Lib (hid)
def Vo:El (Int×Int) where
  k:=2
  E:=fun w x cs=>cs=[.int .i64 x.1,.int .i64 x.2]
  mono:=fun h _ _=>h
  len:=fun h=>by subst h; rfl
def oK (l:List (Int×Int)):List Value:=l.flatMap fun x=>[.int .i64 x.1,.int .i64 x.2]
theorem wF (l:List (Int×Int)) (x:Int×Int):oK l++[.int .i64 x.1,.int .i64 x.2]=oK (l++[x]):=by simp [oK]
theorem H8:∀ (l:List (Int×Int)) (i:Nat) (h:i<l.length),((oK l).drop (i * 2)).take 2=[.int .i64 l[i].1,.int .i64 l[i].2]
  | [],i,h=>absurd h (Nat.not_lt_zero _)
  | x :: t,0,h=>by simp [oK]
  | x :: t,i+1,h=>by
    have:=H8 t i (by simpa using h)
    rw [show (i+1) * 2=i * 2+1+1 by omega]
    simpa [oK] using this
theorem acR {w:World} {b:Nat} {v:Value} {l:List (Int×Int)} (h:w.ownsRow b 31 2 v l.length (oK l)):iC Vo w v l:=
  iC.dB h (fun i hi=>H8 l i hi)
theorem Ny {x y:Int}:∀ u∈[Value.int .i64 x,.int .i64 y],u.oneCell'=true:=by intro u hu; simp at hu; rcases hu with rfl | rfl <;> rfl
theorem SS:(Tryz.prog.info? 31).map (fun i=>(i.zero,i.size,i.bytes))=some (some (.agg #[.int .i64 0,.int .i64 0]),2,16):=by kernel_rfl
def OD (ps:List dH) (i:Nat) (v:Int):List (Int×Int):=
  if v=ps.length then [] else if (i:Int)<v then (if (aZ ps v.toNat).colour<(aZ ps i).colour then [(v,(i:Int))] else [((i:Int),v)]) else []
def dW (ps:List dH) (W:List Int):Nat→List (Int×Int)
  | 0=>[]
  | k+1=>dW ps W k++OD ps k (W.getD k 0)
def lH (n:Nat) (W:List Int):Nat→Int
  | 0=>-1
  | k+1=>if W.getD k 0=n then k else lH n W k
theorem zf (ps:List dH) (W:List Int):∀ k,(dW ps W k).length≤k
  | 0=>Nat.le_refl _
  | k+1=>by
    unfold dW
    rw [List.length_append]
    have h:(OD ps k (W.getD k 0)).length≤1:=by
      unfold OD
      split
      · simp
      · split
        · split <;> simp
        · simp
    have:=zf ps W k
    omega
theorem rH {B C:Nat} {a b c:World} (h:Below B a b) (k:Below C b c) (hC:B≤C):Below B a c:=h.trans (k.mono hC)
def Zq (ps:List dH) (w:World) (e:Ending) (w':World):Prop:=Below w.heap.size w w' ∧
  ((∃ c:Int,c≠0∧gW ps c∧e=.returned (.tuple #[.slice none 0 0,.int .i64 0,.int .i64 0,.int .i64 c])) ∨
   (um ps∧(Bf ps).1=none∧e=.returned (.tuple #[.slice none 0 0,.int .i64 0,.int .i64 0,.int .i64 8])) ∨
   (um ps∧∃ (W:List Int) (v:Value),(Bf ps).1=some W∧Whole ps W∧iC Vo w' v (dW ps W ps.length)∧(∀ b,v.ownBlock=some b→w.heap.size≤b)∧e=.returned (.tuple #[v,.int .i64 (Bf ps).2,.int .i64 (lH ps.length W ps.length),.int .i64 0])))
set_option maxRecDepth 100000 in
set_option maxHeartbeats 8000000 in
theorem Zr (s:Value) (ps:List dH) (w:World) (h:kZ w s ps):Calls Tryz.prog 9 #[s] w (Zq ps w):=by
  obtain ⟨a,c,rfl,h1,h2⟩:=h.form
  unfold maxLen at h2
  have OC:=hid h
  clear h
  go_enter Tryz.func9,Tryz.ntmps9
  go_upto_region 2 with (go_at_call 29; refine (rG _ ps _ OC.out).mono ?_; rintro e w1 ⟨cc,rfl,vK,hbl⟩; have afP:=hid vK; have HB1:=hid hbl; clear vK hbl)
  by_cases hc:cc=0
  rotate_left
  · go_wp2_with fail
    refine bodyPost_ret (v:=.tuple #[.slice none 0 0,.int .i64 0,.int .i64 0,.int .i64 cc]) (by simp [results,Tryz.results9,go_sem]) rfl ?_
    exact ⟨HB1.out,.inl ⟨cc,hc,afP.out,rfl⟩⟩
  · have OB:Hid (um ps):=hid (by
      rcases afP.out with ⟨-,q⟩ | ⟨q,-⟩ | ⟨q,-⟩ | ⟨q,-⟩ | ⟨q,-⟩
      · exact q
      all_goals omega)
    obtain ⟨hn2,MG⟩:=OB.out.1
    obtain ⟨g,o,rfl,-,-⟩:=kZ.some OC.out (by omega)
    have HR1:=hid (OC.out.below HB1.out (Nat.le_refl _))
    subst hc
    clear afP
    have hw1:=HB1.out.size
    go_upto_region 5 with (go_at_call 30; refine (QK ps.length w1.heap.size 0 1 _ hn2 MG ((Box.new w1 [.int .i64 (-1)] _).cell 0 rfl)).mono ?_; rintro e w2 ⟨rfl,hbx,hb2⟩; have Me:=hid hbx; have HB2:=hid hb2; clear hbx hb2)
    have Wj:=hid (rH (HB1.out.alloc hw1 _) HB2.out (by rw [World.size_alloc]; omega))
    rw [World.size_alloc] at Me
    have hw2:w1.heap.size+1+1≤w2.heap.size:=by
      have:=Me.out.lt
      have h3:=HB2.out.size
      rw [World.size_alloc] at h3
      omega
    obtain ⟨hh,hhe⟩:∃ hh,hh=w1.heap.size+1:=⟨_,rfl⟩
    obtain ⟨bb,hbe⟩:∃ bb,bb=w2.heap.size:=⟨_,rfl⟩
    have hHh:w.heap.size≤hh:=by omega
    have hHb:w.heap.size≤bb:=by omega
    have hne:bb≠hh:=by omega
    have kF:=hid (Wj.out.alloc (by omega) (.cells #[.slice (some ⟨g,o,none⟩) ps.length c,.slice (some ⟨hh,0,none⟩) ps.length ps.length,.slice none 0 0,.int .i64 0] 106))
    have Ox:=hid (Box.new' w2 bb [.slice (some ⟨g,o,none⟩) ps.length c,.slice (some ⟨hh,0,none⟩) ps.length ps.length,.slice none 0 0,.int .i64 0] 106 hbe.symm)
    have HNh:=hid (Me.out.alloc (.cells #[.slice (some ⟨g,o,none⟩) ps.length c,.slice (some ⟨hh,0,none⟩) ps.length ps.length,.slice none 0 0,.int .i64 0] 106))
    rw [← hhe] at HNh ⊢
    rw [← hbe]
    clear Me Wj HB2 hw2 hhe hbe hw1
    generalize (w2.alloc (.cells #[.slice (some ⟨g,o,none⟩) ps.length c,.slice (some ⟨hh,0,none⟩) ps.length ps.length,.slice none 0 0,.int .i64 0] 106))=wp at *
    have HST:Hid (St ps (some ⟨g,o,none⟩) c bb hh (List.replicate ps.length (-1)) (.slice none 0 0) (none,0) wp):=hid ⟨hne,Ox.out,HNh.out,
      Held.old (fun w' hb=>OC.out.below (kF.out.trans hb) (Nat.le_refl _)) (fun k hk=>by rcases hk with e | e <;> omega) kF.out.size,.inl ⟨rfl,rfl⟩⟩
    clear Ox HNh HR1
    have hbq:((ps.length:Int) % 2 == 1)=decide (ps.length % 2=1):=by
      by_cases hb:ps.length % 2=1
      · rw [decide_eq_true hb]; simp; omega
      · rw [decide_eq_false hb]; simp; omega
    go_upto_region 6 with (fail)
    try rw [hbq]
    refine (Es ps g o c bb hh hn2 MG (fun k hk=>(OB.out.2.1 k hk).1) (ps.length+1) (List.replicate ps.length (-1)) (decide (ps.length % 2=1)) 0 (none,0) (.slice none 0 0) wp (by simp) (by rw [Ai]; omega) (fun k hk=>by
      rcases Nat.lt_or_ge k ps.length with h | h
      · exact uq _ _ h
      · rw [List.getD_eq_getElem?_getD,List.getElem?_eq_none (by simpa using h)] at hk; cases hk) (Int.le_refl _) (by rw [Ai]; omega) HST.out).mono ?_
    rintro e wx ⟨rfl,vx,hsx,hfx⟩
    change St ps (some ⟨g,o,none⟩) c bb hh (List.replicate ps.length (-1)) vx (Bf ps) wx at hsx
    have dL:=hid (kF.out.trans (hfx.below (B:=w.heap.size) (fun k hk=>by rcases hk with e | e <;> omega) kF.out.size))
    have HG:=hid (Vj ps (afO ps OB.out))
    obtain ⟨⟨bo,lv⟩,hpz⟩:∃ p,Bf ps=p:=⟨_,rfl⟩
    have HPZ:=hid hpz
    rw [hpz] at hsx HG
    have q2:=hsx.box.cell 2 rfl
    have q3:=hsx.box.cell 3 rfl
    have zW:Hid (∀ w',Below wx.heap.size wx w'→w'.cell? ⟨bb,3,none⟩=some (.int .i64 lv)):=hid (fun w' hb=>(hsx.box.stays hb).cell 3 rfl)
    have H6:=hsx.best
    have hq:=fun (w:World) (a:Option Addr) (n c:Nat)=>Lib.run_eql_slice_nil (P:=Tryz.prog) w 22 3 a n c 0 0 Tryz.underlying22
    clear hsx hfx hbq HST hpz kF HB1
    rcases H6 with ⟨rfl,rfl⟩ | ⟨W,gw,cw,rfl,rfl,hld⟩
    · go_wp2_with fail
      refine bodyPost_ret (v:=.tuple #[.slice none 0 0,.int .i64 0,.int .i64 0,.int .i64 8]) (by simp [results,Tryz.results9,go_sem]) rfl ?_
      exact ⟨dL.out,.inr (.inl ⟨OB.out,by rw [HPZ.out],rfl⟩)⟩
    · have HWG:Hid (Whole ps W):=hid (by
        rcases HG.out with e | ⟨W',e,hw,-⟩
        · cases e
        · cases e; exact hw)
      have HL:Hid (W.length=ps.length):=hid HWG.out.1.len
      have HWI:=hid hld.now
      have hlW:=HL.out
      rw [hlW] at HWI
      rw [hlW] at q2
      clear HG hld
      go_upto_region 11 with (fail)
      go_loopw [40,8,9,10,11] (fun vk vo vf v10 v11 wr=>∃ (k:Nat) (o1 o2 o3:Value),o1=vo∧o2=v10∧o3=v11∧k≤ps.length∧vk=.int .i64 k∧vf=.int .i64 (lH ps.length W k)∧Hid (Below wx.heap.size wx wr)∧Hid (wr.ownsRow wx.heap.size 31 2 vo (dW ps W k).length (oK (dW ps W k)))) (fun v _ _ _ _ _=>ps.length - (intOf v).toNat)
      case atStart=>exact ⟨0,_,_,_,rfl,rfl,rfl,Nat.zero_le _,rfl,rfl,hid (Below.refl _ _),hid (World.ownsRow_nil _ _ _ _)⟩
      case round =>
        obtain ⟨k,vo,v10,v11,rfl,rfl,rfl,hk,rfl,rfl,HBR,HO⟩:=hrel
        by_cases hlt:k<ps.length
        · have hki:(k:Int)<(ps.length:Int):=by omega
          have hol:=zf ps W k
          have ajn:=hid (rH dL.out HBR.out dL.out.size)
          obtain ⟨z,hz⟩:∃ z,W.getD k 0=z:=⟨_,rfl⟩
          have czk:wr.cell? ⟨gw,k,none⟩=some (.int .i64 z):=by
            obtain ⟨g2,o2,cc2,ha,-,-,hg2,hc2⟩:=fQ.some (HWI.out.below HBR.out (Nat.le_refl _)) (by omega)
            simp only [Value.slice.injEq,Option.some.injEq,Addr.mk.injEq] at ha
            obtain ⟨⟨rfl,rfl,-⟩,-,-⟩:=ha
            have:=hc2 k (by omega)
            rw [Nat.zero_add,hz] at this
            exact this
          have HON:Hid (dW ps W (k+1)=dW ps W k++OD ps k z):=hid (by rw [dW,hz])
          have HOZ:Hid (lH ps.length W (k+1)=if z=ps.length then (k:Int) else lH ps.length W k):=hid (by rw [lH,hz])
          have hent:z=(ps.length:Int)∨∃ j:Nat,j<ps.length∧z=(j:Int)∧j≠k:=by
            rcases HWG.out.1.ent k hlt with e | ⟨e,-⟩ | ⟨j,h1,h2,h3,-⟩
            · exact absurd e (Nv HWG.out.2 k (by omega))
            · exact .inl (hz.symm.trans e)
            · exact .inr ⟨j,h1,hz.symm.trans h2,h3⟩
          clear hz
          rcases hent with rfl | ⟨j,hj,rfl,hjk⟩
          · have Wi:Hid ((Value.int .i64 (k:Int))=.int .i64 (lH ps.length W (k+1))):=hid (by rw [HOZ.out,if_pos rfl])
            go_wp2_with fail
            go_roundw
            case rel=>exact ⟨k+1,_,_,_,rfl,rfl,rfl,by omega,by go_num,Wi.out,HBR,hid (by
              have hg:OD ps k (ps.length:Int)=[]:=by unfold OD; rw [if_pos rfl]
              rw [HON.out,hg,List.append_nil]; exact HO.out)⟩
            case measure=>simp [intOf]; omega
          · have Wi:Hid ((Value.int .i64 (lH ps.length W k))=.int .i64 (lH ps.length W (k+1))):=hid (by rw [HOZ.out,if_neg (by omega)])
            have hjn:¬ ((j:Int)=(ps.length:Int)):=by omega
            have HGM:Hid (OD ps k (j:Int)=if (k:Int)<j then (if (aZ ps j).colour<(aZ ps k).colour then [((j:Int),(k:Int))] else [((k:Int),(j:Int))]) else []):=hid (by unfold OD; rw [if_neg hjn]; rfl)
            have Zt:wr.cell? ⟨g,o+j * 4+2,none⟩=some (.int .i64 (aZ ps j).colour)∧wr.cell? ⟨g,o+k * 4+2,none⟩=some (.int .i64 (aZ ps k).colour):=by
              obtain ⟨g2,o2,ha,-,hc2⟩:=kZ.some (OC.out.below ajn.out (Nat.le_refl _)) (by omega)
              cases ha
              obtain ⟨-,-,-,d1,-,-⟩:=hc2 j hj
              obtain ⟨-,-,-,d2,-,-⟩:=hc2 k hlt
              exact ⟨d1,d2⟩
            have Zu:Hid (Below wx.heap.size wx wr.drew):=hid (below_drewN HBR.out 1)
            have QL:Hid (wr.drew.ownsRow wx.heap.size 31 2 vo (dW ps W k).length (oK (dW ps W k))):=hid (aS HO.out (below_drewN (Below.refl _ _) 1))
            obtain ⟨cj,hcj⟩:∃ c,(aZ ps j).colour=c:=⟨_,rfl⟩
            obtain ⟨ck,hck⟩:∃ c,(aZ ps k).colour=c:=⟨_,rfl⟩
            rw [hcj,hck] at HGM Zt
            clear hcj hck HO HOZ ajn
            by_cases hkj:(k:Int)<(j:Int)
            · rw [if_pos hkj] at HGM
              by_cases hcc:cj<ck
              · rw [if_pos hcc] at HGM
                rw [HGM.out] at HON
                go_upto_region 15 with (fail)
                refine wp_region_noPanic ?_
                refine bI (S:=(fun w'=>w'.cell? ⟨g,o+j * 4+2,none⟩=some (.int .i64 cj)∧w'.cell? ⟨g,o+k * 4+2,none⟩=some (.int .i64 ck))) (L:=[]) (by kernel_rfl) ⟨Zt.1,Zt.2⟩ (fun hHeld=>?_)
                refine aC 0 ?_
                refine aC 1 ?_
                refine aC 2 ?_
                refine aC 3 ?_
                refine aC 4 ?_
                refine aC 5 ?_
                refine aC 9 ?_
                refine aC 10 ?_
                refine aC 6 ?_
                refine aC 11 ?_
                refine aC 7 ?_
                refine aC 12 ?_
                refine dV 8 ?_
                refine dV 13 ?_
                refine aC 14 ?_
                refine aC 15 ?_
                refine aC 16 ?_
                refine jC ?_
                clear hHeld
                have HDR:Hid (∀ o,(wr.alloc o).drew=wr.drew.alloc o):=hid (fun _=>rfl)
                go_wp2_with (at_builtin; rw [HDR.out]; refine fV 29 31 (.agg #[.int .i64 0,.int .i64 0]) 2 16 SS Tryz.underlying29 rfl (by decide) (by rfl) _ _ (by rfl) wx.heap.size vo (dW ps W k).length (oK (dW ps W k)) [.int .i64 (j:Int),.int .i64 (k:Int)] wr.drew QL.out (by have:=Zu.out.size; omega) rfl Ny (by omega) (by omega) (by rfl) (by rfl) ?_)
                intro g3 cap3 w3 hown3 dA _
                have oz:=hid hown3
                have HB3:=hid (dA.below Zu.out (Nat.le_refl _))
                clear hown3 dA
                go_wp2_with fail
                go_roundw
                case rel=>exact ⟨k+1,_,_,_,rfl,rfl,rfl,by omega,by go_num,Wi.out,HB3,hid (by
                  rw [HON.out,← wF _ ((j:Int),(k:Int)),show (dW ps W k++[((j:Int),(k:Int))]).length=(dW ps W k).length+1 by rw [List.length_append]; rfl]
                  exact oz.out)⟩
                case measure=>simp [intOf]; omega
              · rw [if_neg hcc] at HGM
                rw [HGM.out] at HON
                go_upto_region 15 with (fail)
                refine wp_region_noPanic ?_
                refine bI (S:=(fun w'=>w'.cell? ⟨g,o+j * 4+2,none⟩=some (.int .i64 cj)∧w'.cell? ⟨g,o+k * 4+2,none⟩=some (.int .i64 ck))) (L:=[]) (by kernel_rfl) ⟨Zt.1,Zt.2⟩ (fun hHeld=>?_)
                refine aC 0 ?_
                refine aC 1 ?_
                refine aC 2 ?_
                refine aC 3 ?_
                refine aC 4 ?_
                refine aC 5 ?_
                refine aC 9 ?_
                refine aC 10 ?_
                refine aC 6 ?_
                refine aC 11 ?_
                refine aC 7 ?_
                refine aC 12 ?_
                refine dV 8 ?_
                refine dV 13 ?_
                refine aC 14 ?_
                refine aC 15 ?_
                refine aC 16 ?_
                refine jC ?_
                clear hHeld
                have HDR:Hid (∀ o,(wr.alloc o).drew=wr.drew.alloc o):=hid (fun _=>rfl)
                go_wp2_with (at_builtin; rw [HDR.out]; refine fV 29 31 (.agg #[.int .i64 0,.int .i64 0]) 2 16 SS Tryz.underlying29 rfl (by decide) (by rfl) _ _ (by rfl) wx.heap.size vo (dW ps W k).length (oK (dW ps W k)) [.int .i64 (k:Int),.int .i64 (j:Int)] wr.drew QL.out (by have:=Zu.out.size; omega) rfl Ny (by omega) (by omega) (by rfl) (by rfl) ?_)
                intro g3 cap3 w3 hown3 dA _
                have oz:=hid hown3
                have HB3:=hid (dA.below Zu.out (Nat.le_refl _))
                clear hown3 dA
                go_wp2_with fail
                go_roundw
                case rel=>exact ⟨k+1,_,_,_,rfl,rfl,rfl,by omega,by go_num,Wi.out,HB3,hid (by
                  rw [HON.out,← wF _ ((k:Int),(j:Int)),show (dW ps W k++[((k:Int),(j:Int))]).length=(dW ps W k).length+1 by rw [List.length_append]; rfl]
                  exact oz.out)⟩
                case measure=>simp [intOf]; omega
            · rw [if_neg hkj] at HGM
              rw [HGM.out,List.append_nil] at HON
              go_upto_region 15 with (fail)
              refine wp_region_noPanic ?_
              refine bI (S:=(fun _=>True)) (L:=[]) (by kernel_rfl) trivial (fun hHeld=>?_)
              refine aC 0 ?_
              refine aC 1 ?_
              refine aC 2 ?_
              refine aC 3 ?_
              refine pK 4 ?_
              refine pK 5 ?_
              refine pK 9 ?_
              refine pK 10 ?_
              refine pK 6 ?_
              refine pK 11 ?_
              refine pK 7 ?_
              refine pK 12 ?_
              refine pK 8 ?_
              refine pK 13 ?_
              refine pK 14 ?_
              refine aC 15 ?_
              refine aC 16 ?_
              refine jC ?_
              clear hHeld
              go_wp2_with fail
              go_roundw
              case rel=>exact ⟨k+1,_,_,_,rfl,rfl,rfl,by omega,by go_num,Wi.out,Zu,hid (by rw [HON.out]; exact QL.out)⟩
              case measure=>simp [intOf]; omega
        · obtain rfl:k=ps.length:=by omega
          have q3:=zW.out wr HBR.out
          go_upto_region 20 with (fail)
          refine wp_region_noPanic ?_
          refine bI (S:=(fun w'=>w'.cell? ⟨bb,3,none⟩=some (.int .i64 lv))) (L:=[]) (by kernel_rfl) q3 (fun hHeld=>?_)
          refine aC 0 ?_
          refine aC 1 ?_
          refine aC 5 ?_
          refine aC 2 ?_
          refine aC 6 ?_
          refine aC 3 ?_
          refine dV 4 ?_
          refine aC 7 ?_
          refine aC 8 ?_
          refine aC 9 ?_
          refine jC ?_
          clear hHeld
          go_wp2_with fail
          refine bodyPost_ret (v:=.tuple #[vo,.int .i64 lv,.int .i64 (lH ps.length W ps.length),.int .i64 0]) (by simp [results,Tryz.results9,go_sem]) rfl ?_
          exact ⟨below_drewN (rH dL.out HBR.out dL.out.size) 1,.inr (.inr ⟨OB.out,W,vo,by rw [HPZ.out],HWG.out,iC.below (acR HO.out) (below_drewN (Below.refl _ _) 1) (Nat.le_refl _),fun b hb=>Nat.le_trans dL.out.size (HO.out.lt b hb).1,by rw [HPZ.out]⟩)⟩
def nI:List (Int×Int)→Int→Nat
 | [],_=>0
 | p :: t,z=>((if p.1=z then 1 else 0)+(if p.2=z then 1 else 0))+nI t z
theorem oL (a b:List (Int×Int)) (z:Int):nI (a++b) z=nI a z+nI b z:=by
 induction a with
 | nil=>simp [nI]
 | cons p t ih=>rw [List.cons_append,nI,nI,ih]; omega
theorem occ_one (a b z:Nat):nI [((a:Int),(b:Int))] (z:Int)=(if z=a then 1 else 0)+(if z=b then 1 else 0):=by
 rw [nI,nI,Nat.add_zero]
 have h1:((a:Int)=(z:Int))↔z=a:=by omega
 have h2:((b:Int)=(z:Int))↔z=b:=by omega
 simp only [h1,h2]
theorem Aj (z:Int):∀ l:List (Int×Int),nI l z≤2 * l.length
 | []=>Nat.le_refl _
 | p :: t=>by
  have:=Aj z t
  rw [nI,List.length_cons]
  split <;> split <;> omega
theorem Whole.len {ps:List dH} {W:List Int} (h:Whole ps W):W.length=ps.length:=h.1.len
theorem Whole.ent {ps:List dH} {W:List Int} (h:Whole ps W) (i:Nat) (hi:i<ps.length) :
  (W.getD i 0=ps.length∧(aZ ps i).dX=false)∨∃ j:Nat,j<ps.length∧W.getD i 0=j∧j≠i∧W.getD j 0=i∧ji ps i j=0:=by
 rcases h.1.ent i hi with e | e | e
 ·exact absurd e (Nv h.2 i (by rw [h.len]; exact hi))
 ·exact .inl e
 ·exact .inr e
theorem Whole.sym {ps:List dH} {W:List Int} (h:Whole ps W) {i j:Nat} (hi:i<ps.length) (hj:j<ps.length) (e:W.getD i 0=(j:Int)):W.getD j 0=(i:Int):=by
 rcases h.ent i hi with ⟨q,-⟩ | ⟨m,h1,h2,h3,h4,-⟩
 ·omega
 ·have:m=j:=by omega
  subst this
  exact h4
theorem SV {ps:List dH} {W:List Int} (h:Whole ps W) (z:Nat) (hz:z<ps.length):∀ k,k≤ps.length →
  nI (dW ps W k) (z:Int)=(if z<k∧W.getD z 0≠ps.length∧(z:Int)<W.getD z 0 then 1 else 0)+(if W.getD z 0≠ps.length∧W.getD z 0<k∧W.getD z 0<z then 1 else 0)
 | 0,_=>by
  have h1:¬ (z<0∧W.getD z 0≠ps.length∧(z:Int)<W.getD z 0):=by omega
  have h2:¬ (W.getD z 0≠ps.length∧W.getD z 0<((0:Nat):Int)∧W.getD z 0<z):=by
   rcases h.ent z hz with ⟨q,-⟩ | ⟨m,h1,h2,-⟩ <;> omega
  rw [if_neg h1,if_neg h2]; rfl
 | k+1,hk=>by
  unfold dW
  rw [oL,SV h z hz k (by omega)]
  rcases h.ent k (by omega) with ⟨q,-⟩ | ⟨j,j1,j2,j3,j4,-⟩
  ·have e:OD ps k (W.getD k 0)=[]:=by unfold OD; rw [if_pos q]
   rw [e]
   have hs:W.getD z 0≠(k:Int):=fun e=>by
    have:=h.sym hz (by omega) e
    omega
   have e1:(z<k+1∧W.getD z 0≠ps.length∧(z:Int)<W.getD z 0)↔(z<k∧W.getD z 0≠ps.length∧(z:Int)<W.getD z 0):=by
    constructor
    ·rintro ⟨a,b,c⟩
     refine ⟨?_,b,c⟩
     by_cases ez:z=k
     ·subst ez; omega
     ·omega
    ·rintro ⟨a,b,c⟩; exact ⟨by omega,b,c⟩
   have e2:(W.getD z 0≠ps.length∧W.getD z 0<((k+1:Nat):Int)∧W.getD z 0<z)↔(W.getD z 0≠ps.length∧W.getD z 0<(k:Int)∧W.getD z 0<z):=by omega
   simp only [e1,e2]
   rfl
  ·have hjn:¬ W.getD k 0=ps.length:=by omega
   have acS:W.getD z 0=(k:Int)↔z=j:=by
    constructor
    ·intro e
     have:=h.sym hz (by omega) e
     omega
    ·rintro rfl; exact j4
   by_cases hkj:k<j
   ·have e:nI (OD ps k (W.getD k 0)) (z:Int)=(if z=k then 1 else 0)+(if z=j then 1 else 0):=by
     unfold OD
     rw [if_neg hjn,j2,if_pos (by omega)]
     split
     ·rw [occ_one,Nat.add_comm]
     ·rw [occ_one]
    rw [e]
    by_cases a1:z=k
    ·subst a1
     rw [j2]
     rw [if_neg (show ¬ (z<z∧(j:Int)≠ps.length∧(z:Int)<j) by omega),if_neg (show ¬ ((j:Int)≠ps.length∧(j:Int)<(z:Int)∧(j:Int)<z) by omega),
      if_pos rfl,if_neg (show ¬ z=j by omega),if_pos (show z<z+1∧(j:Int)≠ps.length∧(z:Int)<j by omega),if_neg (show ¬ ((j:Int)≠ps.length∧(j:Int)<((z+1:Nat):Int)∧(j:Int)<z) by omega)]
    ·by_cases a2:z=j
     ·subst a2
      rw [j4]
      rw [if_neg (show ¬ (z<k∧(k:Int)≠ps.length∧(z:Int)<k) by omega),if_neg (show ¬ ((k:Int)≠ps.length∧(k:Int)<(k:Int)∧(k:Int)<z) by omega),
       if_neg a1,if_pos rfl,if_neg (show ¬ (z<k+1∧(k:Int)≠ps.length∧(z:Int)<k) by omega),if_pos (show (k:Int)≠ps.length∧(k:Int)<((k+1:Nat):Int)∧(k:Int)<z by omega)]
     ·have hne:¬ W.getD z 0=(k:Int):=fun e=>a2 (acS.1 e)
      rw [if_neg a1,if_neg a2]
      have e1:(z<k+1∧W.getD z 0≠ps.length∧(z:Int)<W.getD z 0)↔(z<k∧W.getD z 0≠ps.length∧(z:Int)<W.getD z 0):=by omega
      have e2:(W.getD z 0≠ps.length∧W.getD z 0<((k+1:Nat):Int)∧W.getD z 0<z)↔(W.getD z 0≠ps.length∧W.getD z 0<(k:Int)∧W.getD z 0<z):=by omega
      simp only [e1,e2]
      rfl
   ·have e:OD ps k (W.getD k 0)=[]:=by unfold OD; rw [if_neg hjn,j2,if_neg (by omega)]
    rw [e]
    have e1:(z<k+1∧W.getD z 0≠ps.length∧(z:Int)<W.getD z 0)↔(z<k∧W.getD z 0≠ps.length∧(z:Int)<W.getD z 0):=by
     constructor
     ·rintro ⟨a,b,c⟩
      refine ⟨?_,b,c⟩
      by_cases ez:z=k
      ·subst ez; omega
      ·omega
     ·rintro ⟨a,b,c⟩; exact ⟨by omega,b,c⟩
    have e2:(W.getD z 0≠ps.length∧W.getD z 0<((k+1:Nat):Int)∧W.getD z 0<z)↔(W.getD z 0≠ps.length∧W.getD z 0<(k:Int)∧W.getD z 0<z):=by
     constructor
     ·rintro ⟨a,b,c⟩
      refine ⟨a,?_,c⟩
      by_cases ez:W.getD z 0=(k:Int)
      ·have:=acS.1 ez; omega
      ·omega
     ·rintro ⟨a,b,c⟩; exact ⟨a,by omega,c⟩
    simp only [e1,e2]
    rfl
theorem uP {ps:List dH} {W:List Int} (h:Whole ps W) (z:Nat) (hz:z<ps.length):nI (dW ps W ps.length) (z:Int)=if W.getD z 0=ps.length then 0 else 1:=by
 rw [SV h z hz _ (Nat.le_refl _)]
 rcases h.ent z hz with ⟨q,-⟩ | ⟨j,j1,j2,j3,-⟩
 ·rw [q,if_pos rfl,if_neg (by omega),if_neg (by omega)]
 ·rw [j2,if_neg (show ¬ (j:Int)=ps.length by omega)]
  by_cases hh:z<j
  ·rw [if_pos (by omega),if_neg (by omega)]
  ·rw [if_neg (by omega),if_pos (by omega)]
def Jz (ps:List dH) (W:List Int) (p:Int×Int):Prop:=∃ i j:Nat,p=((i:Int),(j:Int))∧i<ps.length∧j<ps.length∧i≠j∧W.getD i 0=j∧W.getD j 0=i∧ji ps i j=0∧ji ps j i=0
theorem jd {ps:List dH} {W:List Int} (h:Whole ps W):∀ k,k≤ps.length→∀ p∈dW ps W k,Jz ps W p
 | 0,_,p,hp=>by cases hp
 | k+1,hk,p,hp=>by
  unfold dW at hp
  rcases List.mem_append.1 hp with hp | hp
  ·exact jd h k (by omega) p hp
  ·rcases h.ent k (by omega) with ⟨q,-⟩ | ⟨j,j1,j2,j3,j4,j5⟩
   ·unfold OD at hp; rw [if_pos q] at hp; cases hp
   ·have hm:ji ps j k=0:=by
     rcases h.ent j j1 with ⟨q,-⟩ | ⟨m,m1,m2,m3,m4,m5⟩
     ·omega
     ·have:m=k:=by omega
      subst this
      exact m5
    unfold OD at hp
    rw [if_neg (by omega),j2] at hp
    split at hp
    ·split at hp
     ·obtain rfl:p=((j:Int),(k:Int)):=by simpa using hp
      exact ⟨j,k,rfl,j1,by omega,j3,j4,j2,hm,j5⟩
     ·obtain rfl:p=((k:Int),(j:Int)):=by simpa using hp
      exact ⟨k,j,rfl,by omega,j1,fun e=>j3 e.symm,j2,j4,j5,hm⟩
    ·cases hp
theorem Nz (n:Nat) (W:List Int):∀ k,(lH n W k = -1∧∀ i,i<k→W.getD i 0≠n)∨∃ i:Nat,i<k∧lH n W k=i∧W.getD i 0=n
 | 0=>.inl ⟨rfl,fun i hi=>absurd hi (Nat.not_lt_zero _)⟩
 | k+1=>by
  unfold lH
  by_cases e:W.getD k 0=n
  ·rw [if_pos e]; exact .inr ⟨k,by omega,rfl,e⟩
  ·rw [if_neg e]
   rcases Nz n W k with ⟨h1,h2⟩ | ⟨i,h1,h2,h3⟩
   ·refine .inl ⟨h1,fun i hi=>?_⟩
    by_cases ei:i=k
    ·subst ei; exact e
    ·exact h2 i (by omega)
   ·exact .inr ⟨i,by omega,h2,h3⟩
def ajo (ps:List dH) (W:List Int) (off:Int):Prop:=
 (off = -1∧ps.length % 2=0∧(∀ i,i<ps.length→W.getD i 0≠ps.length)) ∨
 ∃ i:Nat,i<ps.length∧off=i∧ps.length % 2=1∧(aZ ps i).dX=false∧W.getD i 0=ps.length∧∀ k,k<ps.length→W.getD k 0=ps.length→k=i
theorem Ew {ps:List dH} {W:List Int} (h:Whole ps W):ajo ps W (lH ps.length W ps.length):=by
 rcases Nz ps.length W ps.length with ⟨h1,h2⟩ | ⟨i,h1,h2,h3⟩
 ·refine .inl ⟨h1,?_,h2⟩
  rcases Nat.mod_two_eq_zero_or_one ps.length with e | e
  ·exact e
  ·obtain ⟨i,hi,e⟩:=h.1.has.2 ⟨e,rfl⟩
   exact absurd e (h2 i hi)
 ·refine .inr ⟨i,h1,h2,(h.1.has.1 ⟨i,h1,h3⟩).1,?_,h3,fun k hk e=>h.1.uniq k i hk h1 e h3⟩
  rcases h.ent i h1 with ⟨-,q⟩ | ⟨j,j1,j2,-⟩
  ·exact q
  ·omega
theorem SX {ps:List dH} (hok:um ps) {c:Int} (h:gW ps c):c=0:=by
 obtain ⟨h1,h2,h3⟩:=hok
 rcases h with ⟨h,-⟩ | ⟨-,h⟩ | ⟨-,i,hi,h⟩ | ⟨-,h⟩ | ⟨-,i,hi,j,hj,h⟩
 ·exact h
 ·exfalso
  rcases h with h | ⟨i,hi,h⟩
  ·exact h h1
  ·have:=(h2 i hi).2.1; omega
 ·exact absurd (h2 i hi).1 h
 ·exfalso
  rcases h with ⟨i,hi,h⟩ | ⟨i,hi,j,hj,h⟩
  ·rw [(h2 i hi).2.2] at h; cases h
  ·exact h (h3 i hi j hj).1
 ·have:=(h3 i hi j hj).2; omega
def bT {α:Type} (f:Nat→α) (i:Nat) (x:α):Nat→α:=fun k=>if k=i then x else f k
theorem fD {α:Type} (f:Nat→α) (i:Nat) (x:α):bT f i x i=x:=if_pos rfl
theorem aW {α:Type} (f:Nat→α) {i k:Nat} (x:α) (h:k≠i):bT f i x k=f k:=if_neg h
structure Cells (w:World) (ob n:Nat) (f:Nat→dH) (v:Nat→Value):Prop where
 c0:∀ i,i<n→w.cell? ⟨ob,i * 4,none⟩=some (.int .i64 (f i).score)
 c1:∀ i,i<n→w.cell? ⟨ob,i * 4+1,none⟩=some (v i)
 c2:∀ i,i<n→w.cell? ⟨ob,i * 4+2,none⟩=some (.int .i64 (f i).colour)
 c3:∀ i,i<n→w.cell? ⟨ob,i * 4+3,none⟩=some (.bool (f i).dX)
 fr:∀ j,w.frozen? ⟨ob,j,none⟩=false
 lt:ob<w.heap.size
theorem Cells.stays {w w':World} {ob n:Nat} {f:Nat→dH} {v:Nat→Value} (h:Cells w ob n f v) (hb:Below w.heap.size w w'):Cells w' ob n f v:=
 ⟨fun i hi=>(hb.cell (p:=⟨ob,_,none⟩) h.lt).trans (h.c0 i hi),fun i hi=>(hb.cell (p:=⟨ob,_,none⟩) h.lt).trans (h.c1 i hi),fun i hi=>(hb.cell (p:=⟨ob,_,none⟩) h.lt).trans (h.c2 i hi),
  fun i hi=>(hb.cell (p:=⟨ob,_,none⟩) h.lt).trans (h.c3 i hi),fun j=>(hb.frozen (p:=⟨ob,j,none⟩) h.lt).trans (h.fr j),Nat.lt_of_lt_of_le h.lt hb.size⟩
theorem Cells.kept {w w':World} {ob n:Nat} {f:Nat→dH} {v:Nat→Value} {row:Option Nat} (h:Cells w ob n f v) (hg:w.grownBy w' row) (hne:some ob≠row):Cells w' ob n f v:=by
 have hbk:=hg.block ob h.lt hne
 have hc:∀ k,w'.cell? ⟨ob,k,none⟩=w.cell? ⟨ob,k,none⟩:=fun k=>World.cell?_of_block (w:=w) (a:=⟨ob,k,none⟩) hbk
 refine ⟨fun i hi=>(hc _).trans (h.c0 i hi),fun i hi=>(hc _).trans (h.c1 i hi),fun i hi=>(hc _).trans (h.c2 i hi),fun i hi=>(hc _).trans (h.c3 i hi),fun j=>?_,Nat.lt_of_lt_of_le h.lt hg.size⟩
 have:=h.fr j
 unfold World.frozen? at this ⊢
 rw [hbk]
 exact this
theorem Cells.put {w:World} {ob n:Nat} {f f':Nat→dH} {v v':Nat→Value} (h:Cells w ob n f v) (i c:Nat) (hi:i<n) (hc:c<4) (u:Value)
  (h0:∀ k,k<n→(if k=i∧c=0 then u else .int .i64 (f k).score)=.int .i64 (f' k).score) (h1:∀ k,k<n→(if k=i∧c=1 then u else v k)=v' k)
  (h2:∀ k,k<n→(if k=i∧c=2 then u else .int .i64 (f k).colour)=.int .i64 (f' k).colour) (h3:∀ k,k<n→(if k=i∧c=3 then u else .bool (f k).dX)=.bool (f' k).dX) :
  Cells (w.setCell ⟨ob,i * 4+c,none⟩ u) ob n f' v':=by
 have key:∀ (k d:Nat) (x:Value),d<4→w.cell? ⟨ob,k * 4+d,none⟩=some x→(w.setCell ⟨ob,i * 4+c,none⟩ u).cell? ⟨ob,k * 4+d,none⟩=some (if k=i∧c=d then u else x):=by
  intro k d x hd hx
  by_cases e:k=i∧c=d
  ·obtain ⟨rfl,rfl⟩:=e
   rw [if_pos ⟨rfl,rfl⟩,World.cell?_setCell_same _ _ _ hx]
  ·rw [if_neg e,World.cell?_setCell_other _ _ _ _ (by simp only [ne_eq,Addr.mk.injEq,and_true,true_and]; omega)]
   exact hx
 refine ⟨fun k hk=>?_,fun k hk=>?_,fun k hk=>?_,fun k hk=>?_,fun j=>by rw [World.frozen?_setCell]; exact h.fr j,by rw [World.size_setCell]; exact h.lt⟩
 ·have:=key k 0 _ (by decide) (h.c0 k hk)
  rw [h0 k hk] at this
  exact this
 ·have:=key k 1 _ (by decide) (h.c1 k hk)
  rw [h1 k hk] at this
  exact this
 ·have:=key k 2 _ (by decide) (h.c2 k hk)
  rw [h2 k hk] at this
  exact this
 ·have:=key k 3 _ (by decide) (h.c3 k hk)
  rw [h3 k hk] at this
  exact this
theorem Cells.score {w:World} {ob n:Nat} {f:Nat→dH} {v:Nat→Value} (h:Cells w ob n f v) (i:Nat) (hi:i<n) (x:Int):Cells (w.setCell ⟨ob,i * 4,none⟩ (.int .i64 x)) ob n (bT f i { f i with score:=x }) v:=by
 refine h.put i 0 hi (by decide) (.int .i64 x) (fun k _=>?_) (fun k _=>if_neg (by omega)) (fun k _=>?_) (fun k _=>?_)
 all_goals
  by_cases e:k=i
  ·subst e; simp [bT]
  ·simp [bT,e]
theorem Cells.bZ {w:World} {ob n:Nat} {f:Nat→dH} {v:Nat→Value} (h:Cells w ob n f v) (i:Nat) (hi:i<n) (u:Value) (l:List Int):Cells (w.setCell ⟨ob,i * 4+1,none⟩ u) ob n (bT f i { f i with bZ:=l }) (bT v i u):=by
 refine h.put i 1 hi (by decide) u (fun k _=>?_) (fun k _=>?_) (fun k _=>?_) (fun k _=>?_)
 all_goals
  by_cases e:k=i
  ·subst e; simp [bT]
  ·simp [bT,e]
theorem Cells.colour {w:World} {ob n:Nat} {f:Nat→dH} {v:Nat→Value} (h:Cells w ob n f v) (i:Nat) (hi:i<n) (x:Int):Cells (w.setCell ⟨ob,i * 4+2,none⟩ (.int .i64 x)) ob n (bT f i { f i with colour:=x }) v:=by
 refine h.put i 2 hi (by decide) (.int .i64 x) (fun k _=>?_) (fun k _=>if_neg (by omega)) (fun k _=>?_) (fun k _=>?_)
 all_goals
  by_cases e:k=i
  ·subst e; simp [bT]
  ·simp [bT,e]
theorem Cells.dX {w:World} {ob n:Nat} {f:Nat→dH} {v:Nat→Value} (h:Cells w ob n f v) (i:Nat) (hi:i<n) (x:Bool):Cells (w.setCell ⟨ob,i * 4+3,none⟩ (.bool x)) ob n (bT f i { f i with dX:=x }) v:=by
 refine h.put i 3 hi (by decide) (.bool x) (fun k _=>?_) (fun k _=>if_neg (by omega)) (fun k _=>?_) (fun k _=>?_)
 all_goals
  by_cases e:k=i
  ·subst e; simp [bT]
  ·simp [bT,e]
structure fF (B:Nat) (w:World) (bs:List Nat) (m:Nat) (u:Nat→Value) (o:Nat→List Int):Prop where
 own:∀ i,i<m→w.ownsRow B 3 1 (u i) (o i).length (ints (o i))
 off:∀ i,i<m→∀ b∈bs,(u i).ownBlock≠some b
 apart:∀ i j,i<m→j<m→i≠j→(u i).ownBlock=none∨(u i).ownBlock≠(u j).ownBlock
 NC:∀ b∈bs,b<w.heap.size
theorem fF.stays {B:Nat} {w w':World} {bs:List Nat} {m:Nat} {u:Nat→Value} {o:Nat→List Int} (h:fF B w bs m u o) (hb:Below w.heap.size w w'):fF B w' bs m u o:=
 ⟨fun i hi=>aS (h.own i hi) hb,h.off,h.apart,fun b hb'=>Nat.lt_of_lt_of_le (h.NC b hb') hb.size⟩
theorem fF.fresh {B:Nat} {w:World} {bs:List Nat} {m:Nat} {u:Nat→Value} {o:Nat→List Int} (h:fF B w bs m u o) (x:Obj):fF B (w.alloc x) (w.heap.size :: bs) m u o:=by
 have hs:=h.stays ((Below.refl w.heap.size w).alloc (Nat.le_refl _) x)
 refine ⟨hs.own,fun i hi b hb=>?_,hs.apart,fun b hb=>?_⟩
 ·rcases List.mem_cons.1 hb with rfl | hb
  ·exact fun e=>by have:=((h.own i hi).lt _ e).2; omega
  ·exact h.off i hi b hb
 ·rcases List.mem_cons.1 hb with rfl | hb
  ·rw [World.size_alloc]; omega
  ·exact hs.NC b hb
theorem fF.less {B:Nat} {w:World} {bs bs':List Nat} {m:Nat} {u:Nat→Value} {o:Nat→List Int} (h:fF B w bs m u o) (hs:∀ b∈bs',b∈bs):fF B w bs' m u o:=
 ⟨h.own,fun i hi b hb=>h.off i hi b (hs b hb),h.apart,fun b hb=>h.NC b (hs b hb)⟩
theorem fF.set {B:Nat} {w:World} {bs:List Nat} {m:Nat} {u:Nat→Value} {o:Nat→List Int} (h:fF B w bs m u o) (b k:Nat) (hb:b∈bs) (x:Value):fF B (w.setCell ⟨b,k,none⟩ x) bs m u o:=
 ⟨fun i hi=>ownsRow_setCell_other (h.own i hi) (h.off i hi b hb) x,h.off,h.apart,fun b' hb'=>by rw [World.size_setCell]; exact h.NC b' hb'⟩
theorem JA (l:List Int) (x:Int):ints (l++[x])=ints l++[.int .i64 x]:=by simp [ints]
theorem fF.app {B:Nat} {w w':World} {bs:List Nat} {m:Nat} {u:Nat→Value} {o:Nat→List Int} (h:fF B w bs m u o) (a:Nat) (ha:a<m) {g c n:Nat} {x:Int} {xs:List Value}
  (hown:w'.ownsRow B 3 1 (.slice (some ⟨g,0,none⟩) n c) n xs) (hn:n=(o a).length+1) (hxs:xs=ints (o a)++[.int .i64 x]) (hg:w.grownBy w' (u a).ownBlock) (hq:(u a).ownBlock=some g∨g=w.heap.size) :
  fF B w' bs m (bT u a (.slice (some ⟨g,0,none⟩) n c)) (bT o a (o a++[x])):=by
 have hnew:∀ j,j<m→j≠a→some g≠(u j).ownBlock:=fun j hj hne e=>by
  rcases hq with q | q
  ·rcases h.apart a j ha hj (fun e=>hne e.symm) with r | r
   ·rw [r] at q; cases q
   ·exact r (q.trans e)
  ·have:=((h.own j hj).lt g e.symm).2; omega
 have hbs:∀ b∈bs,g≠b:=fun b hb e=>by
  rcases hq with q | q
  ·exact h.off a ha b hb (by rw [q,e])
  ·have:=h.NC b hb; omega
 refine ⟨fun i hi=>?_,fun i hi b hb=>?_,fun i j hi hj hij=>?_,fun b hb=>Nat.lt_of_lt_of_le (h.NC b hb) hg.size⟩
 ·by_cases e:i=a
  ·subst e
   rw [fD,fD,List.length_append,JA ,← hxs]
   subst hn
   exact hown
  ·rw [aW _ _ e,aW _ _ e]
   exact (h.own i hi).kept hg (h.apart i a hi ha e)
 ·by_cases e:i=a
  ·subst e
   rw [fD]
   simp only [Value.ownBlock,ne_eq,Option.some.injEq]
   exact hbs b hb
  ·rw [aW _ _ e]; exact h.off i hi b hb
 ·by_cases e:i=a
  ·subst e
   rw [fD,aW _ _ (fun e=>hij e.symm)]
   exact .inr (hnew j hj (fun e=>hij e.symm))
  ·rw [aW _ _ e]
   by_cases e2:j=a
   ·subst e2
    rw [fD]
    cases hb:(u i).ownBlock with
    | none=>exact .inl rfl
    | some k=>exact .inr (fun q=>hnew i hi e (by rw [hb]; exact q.symm))
   ·rw [aW _ _ e2]; exact h.apart i j hi hj hij
theorem fF.new {B:Nat} {w w':World} {bs:List Nat} {m:Nat} {u:Nat→Value} {o:Nat→List Int} (h:fF B w bs m u o) (hb:Below w.heap.size w w') {x:Value} {l:List Int} (hB:B≤w.heap.size)
  (hown:w'.ownsRow w.heap.size 3 1 x l.length (ints l)) (hl:o m=l):fF B w' bs (m+1) (bT u m x) o:=by
 have hs:=h.stays hb
 have hx:∀ k,x.ownBlock=some k→w.heap.size≤k:=fun k e=>(hown.lt k e).1
 refine ⟨fun i hi=>?_,fun i hi b hb'=>?_,fun i j hi hj hij=>?_,hs.NC⟩
 ·by_cases e:i=m
  ·subst e; rw [fD,hl]; exact own_base hown hB
  ·rw [aW _ _ e]; exact hs.own i (by omega)
 ·by_cases e:i=m
  ·subst e; rw [fD]; exact fun q=>by have:=hx b q; have:=h.NC b hb'; omega
  ·rw [aW _ _ e]; exact h.off i (by omega) b hb'
 ·by_cases e:i=m
  ·subst e
   rw [fD,aW _ _ (fun e=>hij e.symm)]
   cases hb2:x.ownBlock with
   | none=>exact .inl rfl
   | some k=>exact .inr (fun q=>by have h1:=hx k hb2; have:=((h.own j (by omega)).lt k q.symm).2; omega)
  ·rw [aW _ _ e]
   by_cases e2:j=m
   ·subst e2
    rw [fD]
    cases hb2:(u i).ownBlock with
    | none=>exact .inl rfl
    | some k=>exact .inr (fun q=>by have h1:=hx k q.symm; have:=((h.own i (by omega)).lt k hb2).2; omega)
   ·rw [aW _ _ e2]; exact h.apart i j (by omega) (by omega) hij
theorem Cells.read {B:Nat} {w:World} {ob n c:Nat} {f:Nat→dH} {v:Nat→Value} {bs:List Nat} (h:Cells w ob n f v) (hr:fF B w bs n v (fun i=>(f i).bZ)) (hn:n≤c) (hc:c≤maxLen) :
  kZ w (.slice (some ⟨ob,0,none⟩) n c) ((List.range n).map f):=by
 refine .inr ⟨ob,0,c,by simp,by simpa using hn,hc,h.lt,fun i hi=>?_⟩
 have hin:i<n:=by simpa using hi
 have e:((List.range n).map f)[i]=f i:=by simp
 refine ⟨[.int .i64 (f i).score,v i,.int .i64 (f i).colour,.bool (f i).dX],?_,fun j hj=>?_⟩
 ·rw [e]; exact ⟨v i,rfl,fQ.dB (hr.own i hin)⟩
 ·rw [Nat.zero_add]
  match j,hj with
  | 0,_=>exact h.c0 i hin
  | 1,_=>exact h.c1 i hin
  | 2,_=>exact h.c2 i hin
  | 3,_=>exact h.c3 i hin
def Zv (K:Nat→Prop):El dH where
 k:=4
 E:=fun w x cs=>∃ v,cs=[.int .i64 x.score,v,.int .i64 x.colour,.bool x.dX]∧fQ w v x.bZ∧∀ b,v.ownBlock=some b→K b
 mono:=fun ⟨v,h,hr,hk⟩ hb hB=>⟨v,h,hr.below hb hB,hk⟩
 len:=fun ⟨v,h,_⟩=>by subst h; rfl
def pU (K:Nat→Prop) (w:World) (v:Value) (ps:List dH):Prop:=iC (Zv K) w v ps∧∀ b,v.ownBlock=some b→K b
theorem pU.sw {K:Nat→Prop} {w:World} {v:Value} {ps:List dH} (h:pU K w v ps):kZ w v ps:=by
 rcases h.1 with h | ⟨g,o,c,h1,h2,h3,h4,h5⟩
 ·exact .inl h
 ·refine .inr ⟨g,o,c,h1,h2,h3,h4,fun i hi=>?_⟩
  obtain ⟨cs,⟨u,a1,a2,-⟩,b⟩:=h5 i hi
  exact ⟨cs,⟨u,a1,a2⟩,b⟩
theorem pU.below {K:Nat→Prop} {w w':World} {v:Value} {ps:List dH} {B:Nat} (h:pU K w v ps) (hb:Below B w w') (hB:w.heap.size≤B):pU K w' v ps:=⟨iC.below h.1 hb hB,h.2⟩
theorem pU.mono {K K':Nat→Prop} {w:World} {v:Value} {ps:List dH} (h:pU K w v ps) (hk:∀ b,K b→K' b):pU K' w v ps:=by
 refine ⟨?_,fun b hb=>hk b (h.2 b hb)⟩
 rcases h.1 with h | ⟨g,o,c,h1,h2,h3,h4,h5⟩
 ·exact .inl h
 ·refine .inr ⟨g,o,c,h1,h2,h3,h4,fun i hi=>?_⟩
  obtain ⟨cs,⟨u,a1,a2,a3⟩,b⟩:=h5 i hi
  exact ⟨cs,⟨u,a1,a2,fun q hq=>hk q (a3 q hq)⟩,b⟩
theorem Vp {α:Type} {el:El α} {K:Nat→Prop} {w w':World} {v:Value} {xs:List α} {row:Option Nat} (h:iC el w v xs) (hv:∀ b,v.ownBlock=some b→K b) (hg:w.grownBy w' row) (hr:∀ b,row=some b→¬ K b)
  (he:∀ x cs,el.E w x cs→el.E w' x cs):iC el w' v xs:=by
 rcases h with h | ⟨g,o,c,h1,h2,h3,h4,h5⟩
 ·exact .inl h
 ·refine .inr ⟨g,o,c,h1,h2,h3,Nat.lt_of_lt_of_le h4 hg.size,fun i hi=>?_⟩
  obtain ⟨cs,a,b⟩:=h5 i hi
  refine ⟨cs,he _ _ a,fun j hj=>?_⟩
  have hne:some g≠row:=fun e=>hr g e.symm (hv g (by subst h1; rfl))
  exact (World.cell?_of_block (w:=w) (a:=⟨g,o+i * el.k+j,none⟩) (hg.block g h4 hne)).trans (b j hj)
theorem pU.grown {K:Nat→Prop} {w w':World} {v:Value} {ps:List dH} {row:Option Nat} (h:pU K w v ps) (hg:w.grownBy w' row) (hr:∀ b,row=some b→¬ K b):pU K w' v ps:=by
 refine ⟨Vp h.1 h.2 hg hr fun x cs ⟨u,a1,a2,a3⟩=>⟨u,a1,Rd.grown a2 hg ?_,a3⟩,h.2⟩
 cases hu:u.ownBlock with
 | none=>exact .inl rfl
 | some b=>exact .inr fun e=>hr b e.symm (a3 b hu)
theorem Cells.ad5 {B:Nat} {w:World} {ob n c:Nat} {f:Nat→dH} {v:Nat→Value} {bs:List Nat} {K:Nat→Prop} (h:Cells w ob n f v) (hr:fF B w bs n v (fun i=>(f i).bZ)) (hn:n≤c) (hc:c≤maxLen) (hk:∀ b,B≤b→K b) (hob:B≤ob) :
  pU K w (.slice (some ⟨ob,0,none⟩) n c) ((List.range n).map f):=by
 refine ⟨.inr ⟨ob,0,c,by simp,by simpa using hn,hc,h.lt,fun i hi=>?_⟩,fun b hb=>by simp only [Value.ownBlock,Option.some.injEq] at hb; exact hk b (by omega)⟩
 have hin:i<n:=by simpa using hi
 have e:((List.range n).map f)[i]=f i:=by simp
 refine ⟨[.int .i64 (f i).score,v i,.int .i64 (f i).colour,.bool (f i).dX],?_,fun j hj=>?_⟩
 ·rw [e]; exact ⟨v i,rfl,fQ.dB (hr.own i hin),fun b hb=>hk b ((hr.own i hin).lt b hb).1⟩
 ·rw [Nat.zero_add]
  match j,hj with
  | 0,_=>exact h.c0 i hin
  | 1,_=>exact h.c1 i hin
  | 2,_=>exact h.c2 i hin
  | 3,_=>exact h.c3 i hin
end Go.Proofs.YteablcielclaeaaGreatDoor
